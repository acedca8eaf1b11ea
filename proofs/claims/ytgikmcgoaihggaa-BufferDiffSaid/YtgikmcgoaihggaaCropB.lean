/- Crop of both, in one contract each. -/
import Derived.Test.YtgikmcgoaihggaaCrop
import Derived.Test.YtgikmcgoaihggaaCropA
import Derived.Test.YtgikmcgoaihggaaCropV
set_option linter.unusedVariables false
set_option linter.unusedSimpArgs false
namespace Go.Proofs.Ytgikmcgoaihggaa
open Go.RowKit Go.Sort
attribute [local go_sem ↓] Go.wp_at_zero Go.wp_at_succ

set_option maxRecDepth 100000 in
set_option maxHeartbeats 4000000 in
theorem vcrop_bad (bw bh : Int) (A : Option Addr) (ps : List Px) (c : Nat) (r : Rc) (w : World) (hr : Rdp w A ps) (hl : ps.length ≤ 9223372036854775807) (he : cropE bw bh ps r ≠ 0) :
    Calls Try.prog 31 #[bufv bw bh (.slice A ps.length c), rcv r] w (BufE w (cropB bw bh ps r) (cropE bw bh ps r)) := by
  have hV := fun W (hb : Below w.heap.size w W) => vvalid_any bw bh A ps c W (hr.below hb) hl
  have hC1 := fun W => r4empty_any r W
  cases k : bufB bw bh ps with
  | false =>
    obtain ⟨q1, q2⟩ := crop_bad r k
    rw [q1, q2]
    rw [k] at hV
    have HV := Lib.hid hV
    generalize ps.length = n at *
    obtain ⟨x0, y0, x1, y1⟩ := r
    clear hV hC1 hr k q1 q2 he
    go_enter Try.func31, Try.ntmps31; go_wp2_with fail; refine (HV.out _ (by (with_reducible repeat (first | assumption | exact Below.refl _ _ | refine Below.setCell ?_ (by first | omega | (simp; done) | (simp; omega)) _ | refine Below.drew ?_ | refine bdrewN ?_ _ | refine Below.alloc ?_ (by first | omega | (simp; done) | (simp; omega)) _)))).mono ?_; rintro e w2 ⟨rfl, hb_w2⟩; have hB2 : Below w.heap.size w w2 := bon (by (with_reducible repeat (first | assumption | exact Below.refl _ _ | refine Below.setCell ?_ (by first | omega | (simp; done) | (simp; omega)) _ | refine Below.drew ?_ | refine bdrewN ?_ _ | refine Below.alloc ?_ (by first | omega | (simp; done) | (simp; omega)) _))) (by simp; try omega) hb_w2; have K2 : Blk w2 (w.heap.size) 27 #[.int .i64 bw, .int .i64 bh, .slice A n c] := Blk.below hb_w2 (by (with_reducible repeat (first | assumption | (refine Blk.newAt ?_; first | rfl | (simp; done)) | refine Blk.alloc ?_ _ | refine Blk.drew ?_ | refine Blk.other ?_ (by simp) _))); have K3 : Blk w2 (w.heap.size + 1) 47 #[.int .i64 x0, .int .i64 y0, .int .i64 x1, .int .i64 y1] := Blk.below hb_w2 (by (with_reducible repeat (first | assumption | (refine Blk.newAt ?_; first | rfl | (simp; done)) | refine Blk.alloc ?_ _ | refine Blk.drew ?_ | refine Blk.other ?_ (by simp) _))); have K4 : Blk w2 (w.heap.size + 1 + 1) 27 #[.int .i64 0, .int .i64 0, .slice none 0 0] := Blk.below hb_w2 (by (with_reducible repeat (first | assumption | (refine Blk.newAt ?_; first | rfl | (simp; done)) | refine Blk.alloc ?_ _ | refine Blk.drew ?_ | refine Blk.other ?_ (by simp) _))); have HK2 := Lib.hid K2; have HK3 := Lib.hid K3; have HK4 := Lib.hid K4; clear hb_w2
    have hbz := Below.refl w2.heap.size w2
    clear K2 K3 K4
    have K := Blk.below hbz HK4.out; obtain ⟨⟨p0, q0⟩, ⟨p1, q1⟩, p2, q2⟩ := K.c3; go_wp2_with fail; obtain ⟨KE, FE⟩ := K.set3 (.int .i64 0) (.int .i64 0) (.slice none 0 0); refine bodyPost_ret (results_ct rfl _ KE rfl Try.underlying27 rfl (by kernel_rfl)) rfl ?_; exact ⟨_, rfl, by (with_reducible repeat (first | assumption | exact Below.refl _ _ | refine Below.setCell ?_ (by first | omega | (simp; done) | (simp; omega)) _ | refine Below.drew ?_ | refine bdrewN ?_ _ | refine Below.alloc ?_ (by first | omega | (simp; done) | (simp; omega)) _)), World.ownsRow_nil _ _ _ _⟩
  | true =>
    have hsm := bufB_small k
    by_cases k2 : emB r = false ∧ 0 ≤ r.x0 ∧ 0 ≤ r.y0 ∧ r.x1 ≤ bw ∧ r.y1 ≤ bh
    · exact absurd (crop_ok k k2).1 he
    · obtain ⟨q1, q2⟩ := crop_out k k2
      rw [q1, q2]
      rw [k] at hV
      have HV := Lib.hid hV
      clear q1 q2 he k
      cases k3 : emB r with
      | true =>
        rw [k3] at hC1
        have HC1 := Lib.hid hC1
        generalize ps.length = n at *
        obtain ⟨x0, y0, x1, y1⟩ := r
        clear hV hC1 hr k2 k3 hsm
        go_enter Try.func31, Try.ntmps31; go_wp2_with fail; refine (HV.out _ (by (with_reducible repeat (first | assumption | exact Below.refl _ _ | refine Below.setCell ?_ (by first | omega | (simp; done) | (simp; omega)) _ | refine Below.drew ?_ | refine bdrewN ?_ _ | refine Below.alloc ?_ (by first | omega | (simp; done) | (simp; omega)) _)))).mono ?_; rintro e w2 ⟨rfl, hb_w2⟩; have hB2 : Below w.heap.size w w2 := bon (by (with_reducible repeat (first | assumption | exact Below.refl _ _ | refine Below.setCell ?_ (by first | omega | (simp; done) | (simp; omega)) _ | refine Below.drew ?_ | refine bdrewN ?_ _ | refine Below.alloc ?_ (by first | omega | (simp; done) | (simp; omega)) _))) (by simp; try omega) hb_w2; have K2 : Blk w2 (w.heap.size) 27 #[.int .i64 bw, .int .i64 bh, .slice A n c] := Blk.below hb_w2 (by (with_reducible repeat (first | assumption | (refine Blk.newAt ?_; first | rfl | (simp; done)) | refine Blk.alloc ?_ _ | refine Blk.drew ?_ | refine Blk.other ?_ (by simp) _))); have K3 : Blk w2 (w.heap.size + 1) 47 #[.int .i64 x0, .int .i64 y0, .int .i64 x1, .int .i64 y1] := Blk.below hb_w2 (by (with_reducible repeat (first | assumption | (refine Blk.newAt ?_; first | rfl | (simp; done)) | refine Blk.alloc ?_ _ | refine Blk.drew ?_ | refine Blk.other ?_ (by simp) _))); have K4 : Blk w2 (w.heap.size + 1 + 1) 27 #[.int .i64 0, .int .i64 0, .slice none 0 0] := Blk.below hb_w2 (by (with_reducible repeat (first | assumption | (refine Blk.newAt ?_; first | rfl | (simp; done)) | refine Blk.alloc ?_ _ | refine Blk.drew ?_ | refine Blk.other ?_ (by simp) _))); have HK2 := Lib.hid K2; have HK3 := Lib.hid K3; have HK4 := Lib.hid K4; clear hb_w2
        obtain ⟨⟨d0, _⟩, ⟨d1, _⟩, ⟨d2, _⟩, d3, _⟩ := K3.c4; clear K2 K3 K4; go_wp2_with fail; refine (HC1.out _).mono ?_; rintro e wz ⟨rfl, hbz⟩; have hB3 : Below w.heap.size w wz := bon hB2 hB2.size hbz; clear d0 d1 d2 d3; obtain ⟨⟨c0, _⟩, ⟨c1, _⟩, c2, _⟩ := (Blk.below hbz HK2.out).c3; obtain ⟨⟨d0, _⟩, ⟨d1, _⟩, ⟨d2, _⟩, d3, _⟩ := (Blk.below hbz HK3.out).c4
        have K := Blk.below hbz HK4.out; obtain ⟨⟨p0, q0⟩, ⟨p1, q1⟩, p2, q2⟩ := K.c3; go_wp2_with fail; obtain ⟨KE, FE⟩ := K.set3 (.int .i64 0) (.int .i64 0) (.slice none 0 0); refine bodyPost_ret (results_ct rfl _ KE rfl Try.underlying27 rfl (by kernel_rfl)) rfl ?_; exact ⟨_, rfl, by (with_reducible repeat (first | assumption | exact Below.refl _ _ | refine Below.setCell ?_ (by first | omega | (simp; done) | (simp; omega)) _ | refine Below.drew ?_ | refine bdrewN ?_ _ | refine Below.alloc ?_ (by first | omega | (simp; done) | (simp; omega)) _)), World.ownsRow_nil _ _ _ _⟩
      | false =>
        rw [k3] at hC1
        have HC1 := Lib.hid hC1
        generalize ps.length = n at *
        obtain ⟨x0, y0, x1, y1⟩ := r
        have kk : x0 < 0 ∨ (¬ x0 < 0 ∧ y0 < 0) ∨ (¬ x0 < 0 ∧ ¬ y0 < 0 ∧ bw < x1) ∨ (¬ x0 < 0 ∧ ¬ y0 < 0 ∧ ¬ bw < x1 ∧ bh < y1) := by
          simp only [k3, true_and] at k2
          omega
        clear hV hC1 hr k2 k3 hsm
        go_enter Try.func31, Try.ntmps31; go_wp2_with fail; refine (HV.out _ (by (with_reducible repeat (first | assumption | exact Below.refl _ _ | refine Below.setCell ?_ (by first | omega | (simp; done) | (simp; omega)) _ | refine Below.drew ?_ | refine bdrewN ?_ _ | refine Below.alloc ?_ (by first | omega | (simp; done) | (simp; omega)) _)))).mono ?_; rintro e w2 ⟨rfl, hb_w2⟩; have hB2 : Below w.heap.size w w2 := bon (by (with_reducible repeat (first | assumption | exact Below.refl _ _ | refine Below.setCell ?_ (by first | omega | (simp; done) | (simp; omega)) _ | refine Below.drew ?_ | refine bdrewN ?_ _ | refine Below.alloc ?_ (by first | omega | (simp; done) | (simp; omega)) _))) (by simp; try omega) hb_w2; have K2 : Blk w2 (w.heap.size) 27 #[.int .i64 bw, .int .i64 bh, .slice A n c] := Blk.below hb_w2 (by (with_reducible repeat (first | assumption | (refine Blk.newAt ?_; first | rfl | (simp; done)) | refine Blk.alloc ?_ _ | refine Blk.drew ?_ | refine Blk.other ?_ (by simp) _))); have K3 : Blk w2 (w.heap.size + 1) 47 #[.int .i64 x0, .int .i64 y0, .int .i64 x1, .int .i64 y1] := Blk.below hb_w2 (by (with_reducible repeat (first | assumption | (refine Blk.newAt ?_; first | rfl | (simp; done)) | refine Blk.alloc ?_ _ | refine Blk.drew ?_ | refine Blk.other ?_ (by simp) _))); have K4 : Blk w2 (w.heap.size + 1 + 1) 27 #[.int .i64 0, .int .i64 0, .slice none 0 0] := Blk.below hb_w2 (by (with_reducible repeat (first | assumption | (refine Blk.newAt ?_; first | rfl | (simp; done)) | refine Blk.alloc ?_ _ | refine Blk.drew ?_ | refine Blk.other ?_ (by simp) _))); have HK2 := Lib.hid K2; have HK3 := Lib.hid K3; have HK4 := Lib.hid K4; clear hb_w2
        obtain ⟨⟨d0, _⟩, ⟨d1, _⟩, ⟨d2, _⟩, d3, _⟩ := K3.c4; clear K2 K3 K4; go_wp2_with fail; refine (HC1.out _).mono ?_; rintro e wz ⟨rfl, hbz⟩; have hB3 : Below w.heap.size w wz := bon hB2 hB2.size hbz; clear d0 d1 d2 d3; obtain ⟨⟨c0, _⟩, ⟨c1, _⟩, c2, _⟩ := (Blk.below hbz HK2.out).c3; obtain ⟨⟨d0, _⟩, ⟨d1, _⟩, ⟨d2, _⟩, d3, _⟩ := (Blk.below hbz HK3.out).c4
        rcases kk with a0 | ⟨a0, a1⟩ | ⟨a0, a1, a2⟩ | ⟨a0, a1, a2, a3⟩
        · have K := Blk.below hbz HK4.out; obtain ⟨⟨p0, q0⟩, ⟨p1, q1⟩, p2, q2⟩ := K.c3; go_wp2_with fail; obtain ⟨KE, FE⟩ := K.set3 (.int .i64 0) (.int .i64 0) (.slice none 0 0); refine bodyPost_ret (results_ct rfl _ KE rfl Try.underlying27 rfl (by kernel_rfl)) rfl ?_; exact ⟨_, rfl, by (with_reducible repeat (first | assumption | exact Below.refl _ _ | refine Below.setCell ?_ (by first | omega | (simp; done) | (simp; omega)) _ | refine Below.drew ?_ | refine bdrewN ?_ _ | refine Below.alloc ?_ (by first | omega | (simp; done) | (simp; omega)) _)), World.ownsRow_nil _ _ _ _⟩
        · have K := Blk.below hbz HK4.out; obtain ⟨⟨p0, q0⟩, ⟨p1, q1⟩, p2, q2⟩ := K.c3; go_wp2_with fail; obtain ⟨KE, FE⟩ := K.set3 (.int .i64 0) (.int .i64 0) (.slice none 0 0); refine bodyPost_ret (results_ct rfl _ KE rfl Try.underlying27 rfl (by kernel_rfl)) rfl ?_; exact ⟨_, rfl, by (with_reducible repeat (first | assumption | exact Below.refl _ _ | refine Below.setCell ?_ (by first | omega | (simp; done) | (simp; omega)) _ | refine Below.drew ?_ | refine bdrewN ?_ _ | refine Below.alloc ?_ (by first | omega | (simp; done) | (simp; omega)) _)), World.ownsRow_nil _ _ _ _⟩
        · have K := Blk.below hbz HK4.out; obtain ⟨⟨p0, q0⟩, ⟨p1, q1⟩, p2, q2⟩ := K.c3; go_wp2_with fail; obtain ⟨KE, FE⟩ := K.set3 (.int .i64 0) (.int .i64 0) (.slice none 0 0); refine bodyPost_ret (results_ct rfl _ KE rfl Try.underlying27 rfl (by kernel_rfl)) rfl ?_; exact ⟨_, rfl, by (with_reducible repeat (first | assumption | exact Below.refl _ _ | refine Below.setCell ?_ (by first | omega | (simp; done) | (simp; omega)) _ | refine Below.drew ?_ | refine bdrewN ?_ _ | refine Below.alloc ?_ (by first | omega | (simp; done) | (simp; omega)) _)), World.ownsRow_nil _ _ _ _⟩
        · have K := Blk.below hbz HK4.out; obtain ⟨⟨p0, q0⟩, ⟨p1, q1⟩, p2, q2⟩ := K.c3; go_wp2_with fail; obtain ⟨KE, FE⟩ := K.set3 (.int .i64 0) (.int .i64 0) (.slice none 0 0); refine bodyPost_ret (results_ct rfl _ KE rfl Try.underlying27 rfl (by kernel_rfl)) rfl ?_; exact ⟨_, rfl, by (with_reducible repeat (first | assumption | exact Below.refl _ _ | refine Below.setCell ?_ (by first | omega | (simp; done) | (simp; omega)) _ | refine Below.drew ?_ | refine bdrewN ?_ _ | refine Below.alloc ?_ (by first | omega | (simp; done) | (simp; omega)) _)), World.ownsRow_nil _ _ _ _⟩
theorem crop_nat {bw bh : Int} {ps : List Px} {r : Rc} (h : cropE bw bh ps r = 0) :
    ∃ W H x0 y0 x1 y1 : Nat, bw = W ∧ bh = H ∧ r = ⟨x0, y0, x1, y1⟩ ∧ (1 ≤ W ∧ W ≤ 256) ∧ (1 ≤ H ∧ H ≤ 256) ∧ ps.length = H * W ∧ (x0 < x1 ∧ x1 ≤ W) ∧ (y0 < y1 ∧ y1 ≤ H) ∧ bufB bw bh ps = true ∧ cropB bw bh ps r = ((x1 : Int) - x0, (y1 : Int) - y0, cropUp ps W x0 (x1 - x0) y0 (y1 - y0)) := by
  cases k : bufB bw bh ps with
  | false => rw [(crop_bad r k).1] at h; cases h
  | true =>
    by_cases k2 : emB r = false ∧ 0 ≤ r.x0 ∧ 0 ≤ r.y0 ∧ r.x1 ≤ bw ∧ r.y1 ≤ bh
    · have e := (crop_ok k k2).2
      obtain ⟨W, H, rfl, rfl, hW, hH, hlen⟩ := bufB_nat k
      obtain ⟨x0, y0, x1, y1⟩ := r
      obtain ⟨k3, a0, a1, a2, a3⟩ := k2
      rw [emB_iff] at k3
      simp only [crd] at k3 a0 a1 a2 a3
      obtain ⟨X0, rfl⟩ := Int.eq_ofNat_of_zero_le a0
      obtain ⟨Y0, rfl⟩ := Int.eq_ofNat_of_zero_le a1
      obtain ⟨X1, rfl⟩ := Int.eq_ofNat_of_zero_le (show 0 ≤ x1 by omega)
      obtain ⟨Y1, rfl⟩ := Int.eq_ofNat_of_zero_le (show 0 ≤ y1 by omega)
      refine ⟨W, H, X0, Y0, X1, Y1, rfl, rfl, rfl, hW, hH, hlen, by omega, by omega, rfl, ?_⟩
      rw [e]
      simp only [Int.toNat_natCast]
      rw [show ((X1 : Int) - X0).toNat = X1 - X0 by omega, show ((Y1 : Int) - Y0).toNat = Y1 - Y0 by omega]
    · rw [(crop_out k k2).1] at h; cases h
theorem bcrop_any (bw bh : Int) (A : Option Addr) (ps : List Px) (c : Nat) (r : Rc) (w : World) (hr : Rdp w A ps) (hl : ps.length ≤ c ∧ c ≤ 9223372036854775807) :
    Calls Try.prog 30 #[bufv bw bh (.slice A ps.length c), rcv r] w (BufE w (cropB bw bh ps r) (cropE bw bh ps r)) := by
  by_cases k : cropE bw bh ps r = 0
  · obtain ⟨W, H, x0, y0, x1, y1, rfl, rfl, rfl, hW, hH, hlen, hx, hy, kb, e⟩ := crop_nat k
    rw [k, e]
    have hp : 0 < ps.length := by rw [hlen]; exact Nat.mul_pos (by omega) (by omega)
    obtain ⟨b, off, rfl, hbl, _⟩ := hr 0 hp
    exact bcrop_run W H x0 y0 x1 y1 b off ps c w hr hlen hl hW hH hx hy kb hbl
  · exact bcrop_bad bw bh A ps c r w hr (by omega) k
theorem vcrop_any (bw bh : Int) (A : Option Addr) (ps : List Px) (c : Nat) (r : Rc) (w : World) (hr : Rdp w A ps) (hl : ps.length ≤ c ∧ c ≤ 9223372036854775807) :
    Calls Try.prog 31 #[bufv bw bh (.slice A ps.length c), rcv r] w (BufE w (cropB bw bh ps r) (cropE bw bh ps r)) := by
  by_cases k : cropE bw bh ps r = 0
  · obtain ⟨W, H, x0, y0, x1, y1, rfl, rfl, rfl, hW, hH, hlen, hx, hy, kb, e⟩ := crop_nat k
    rw [k, e]
    exact vcrop_run W H x0 y0 x1 y1 A ps c w hr hlen hW hH hx hy kb
  · exact vcrop_bad bw bh A ps c r w hr (by omega) k
end Go.Proofs.Ytgikmcgoaihggaa
