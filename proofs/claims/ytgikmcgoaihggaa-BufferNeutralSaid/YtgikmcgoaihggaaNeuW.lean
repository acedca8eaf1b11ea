/- BufferNeutral: the walk. -/
import Derived.Test.YtgikmcgoaihggaaBEx
import Derived.Test.YtgikmcgoaihggaaBEq
import Derived.Test.YtgikmcgoaihggaaNewC
import Derived.Test.YtgikmcgoaihggaaCombB
import Derived.Test.YtgikmcgoaihggaaOpenB
set_option linter.unusedVariables false
set_option linter.unusedSimpArgs false
namespace Go.Proofs.Ytgikmcgoaihggaa
open Go.RowKit Go.Sort
attribute [local go_sem ↓] Go.wp_at_zero Go.wp_at_succ

theorem bufE_atU {w : World} {B1 B2 : Int} {ps : List Px} {E : Int} {e : Ending} {w' : World} (h : BufE w (B1, B2, ps) E e w') : ∃ A c, e = .returned (.tuple #[bufv B1 B2 (.slice A ps.length c), .int .i64 E]) ∧ Below w.heap.size w w' ∧ Rdp w' A ps ∧ ps.length ≤ c ∧ c ≤ 9223372036854775807 := by
  obtain ⟨v, he, hb, ho⟩ := h
  obtain ⟨A, c, rfl, h1, h2, hr⟩ := ho.form
  exact ⟨A, c, he, hb, hr, h1, h2⟩
/-- A buffer pasted into itself. -/
theorem put_self {d : List Px} {W H : Nat} (hd : d.length = H * W) (hW : 0 < W) : putM cpy d d W W H 0 0 d.length = d := by
  refine List.ext_getElem putM_length fun q h1 h2 => ?_
  rw [putM_get, if_pos h2]
  unfold putG
  by_cases hc : cov W W H 0 0 q
  · rw [if_pos hc]
    have hq := Nat.div_add_mod q W
    rw [Nat.mul_comm] at hq
    have e : ((((q / W : Nat) : Int) - 0) * (W : Int) + (((q % W : Nat) : Int) - 0)).toNat = q := by
      have : ((q / W * W : Nat) : Int) = ((q / W : Nat) : Int) * (W : Int) := by simp
      rw [Int.sub_zero, Int.sub_zero, ← this]
      omega
    rw [e, getD_at h2]
    rfl
  · rw [if_neg hc, getD_at h2]
theorem over_zero {p : Px} (h : vldB p = true) (ok : p.ok) : bld p px0 = p := by
  obtain ⟨h1, h2, h3⟩ := (vldB_iff p).1 h
  obtain ⟨⟨a1, a2⟩, ⟨b1, b2⟩, ⟨c1, c2⟩, d1, d2⟩ := ok
  obtain ⟨r, g, b, a⟩ := p
  simp only at h1 h2 h3 a1 a2 b1 b2 c1 c2 d1 d2
  unfold bld overP px0 prod8
  simp only [Px.mk.injEq]
  rw [Int.min_eq_left h1, Int.min_eq_left h2, Int.min_eq_left h3]
  omega
theorem put_zero {d : List Px} {W H : Nat} (hv : d.all vldB = true) (ok : PxsOk d) : putM bld d (List.replicate (W * H) px0) W W H 0 0 d.length = d := by
  refine List.ext_getElem putM_length fun q h1 h2 => ?_
  rw [putM_get, if_pos h2]
  unfold putG
  split
  · have e : ∀ k, (List.replicate (W * H) px0).getD k px0 = px0 := by
      intro k
      rw [List.getD_eq_getElem?_getD, List.getElem?_replicate]
      split <;> rfl
    rw [e, getD_at h2]
    exact over_zero (vldB_at hv h2) (ok_at ok h2)
  · rw [getD_at h2]
theorem put_right {f : Px → Px → Px} {d s : List Px} {W : Nat} {sw sh y : Int} (hW : 0 < W) : putM f d s W sw sh W y d.length = d :=
  putM_out fun q _ hc => by have := Nat.mod_lt q hW; unfold cov at hc; omega
theorem put_above {f : Px → Px → Px} {d s : List Px} {W : Nat} {sw sh x : Int} : putM f d s W sw sh x (-sh) d.length = d :=
  putM_out fun q _ hc => by unfold cov at hc; generalize q / W = j at *; omega
set_option maxRecDepth 100000 in
set_option maxHeartbeats 4000000 in
theorem bufferneutral_any (dw dh : Int) (Ad : Option Addr) (d : List Px) (c1 : Nat) (sw sh : Int) (As : Option Addr) (s : List Px) (c2 : Nat) (w : World) (hl1 : d.length ≤ c1 ∧ c1 ≤ 9223372036854775807) (hl2 : s.length ≤ c2 ∧ c2 ≤ 9223372036854775807) (rd : Rdp w Ad d) (rs : Rdp w As s) (okd : PxsOk d) (oks : PxsOk s) :
    Calls Try.prog 12 #[bufv dw dh (.slice Ad d.length c1), bufv sw sh (.slice As s.length c2)] w fun e w' => e = .returned (.bool true) ∧ Below w.heap.size w w' := by
  have hS1 := fun W => lbsmall_any dw dh Ad d.length c1 W (by omega)
  have hS2 := fun W => lbsmall_any sw sh As s.length c2 W (by omega)
  have hV1 := fun W (h : Below w.heap.size w W) => vvalid_any dw dh Ad d c1 W (rd.below h) (by omega)
  have hV2 := fun W (h : Below w.heap.size w W) => vvalid_any sw sh As s c2 W (rs.below h) (by omega)
  obtain ⟨n, hn⟩ : ∃ n, d.length = n := ⟨_, rfl⟩
  obtain ⟨ns, hns⟩ : ∃ n, s.length = n := ⟨_, rfl⟩
  rw [hn] at hS1 hV1 hl1 ⊢
  rw [hns] at hS2 hV2 hl2 ⊢
  have HN := Lib.hid hn
  have HNS := Lib.hid hns
  have HRD := Lib.hid rd
  have HRS := Lib.hid rs
  clear hn hns rd rs
  obtain ⟨hl3, hl4⟩ := hl1
  obtain ⟨hl5, hl6⟩ := hl2
  by_cases s1 : n ≤ 400
  · rw [decide_eq_true s1] at hS1
    have HS1 := Lib.hid hS1
    clear hS1
    by_cases s2 : ns ≤ 400
    · rw [decide_eq_true s2] at hS2
      have HS2 := Lib.hid hS2
      clear hS2
      cases kd : bufB dw dh d with
      | false =>
        rw [kd] at hV1
        have HV1 := Lib.hid hV1
        clear hV1 hV2 kd okd oks
        go_enter Try.func12, Try.ntmps12; go_wp2_with fail; refine (HS1.out _).mono ?_; rintro e w1 ⟨rfl, hb_w1⟩; have hB1 : Below w.heap.size w w1 := bon (by (with_reducible repeat (first | assumption | exact Below.refl _ _ | refine Below.setCell ?_ (by first | omega | (simp; done) | (simp; omega)) _ | refine Below.drew ?_ | refine bdrewN ?_ _ | refine Below.alloc ?_ (by first | omega | (simp; done) | (simp; omega)) _))) (by simp; try omega) hb_w1; have K2 : Blk w1 w.heap.size 27 #[.int .i64 dw, .int .i64 dh, .slice Ad n c1] := Blk.below hb_w1 (by (with_reducible repeat (first | assumption | (refine Blk.newAt ?_; first | rfl | (simp; done)) | refine Blk.alloc ?_ _ | refine Blk.drew ?_ | refine Blk.other ?_ (by simp) _))); have K3 : Blk w1 (w.heap.size + 1) 27 #[.int .i64 sw, .int .i64 sh, .slice As ns c2] := Blk.below hb_w1 (by (with_reducible repeat (first | assumption | (refine Blk.newAt ?_; first | rfl | (simp; done)) | refine Blk.alloc ?_ _ | refine Blk.drew ?_ | refine Blk.other ?_ (by simp) _))); clear hb_w1
        obtain ⟨⟨p0, _⟩, ⟨p1, _⟩, p2, _⟩ := K2.c3; obtain ⟨⟨q0, _⟩, ⟨q1, _⟩, q2, _⟩ := K3.c3; have HK2 := Lib.hid K2; have HK3 := Lib.hid K3; clear K2 K3; go_wp2_with fail; refine (HS2.out _).mono ?_; rintro e w2 ⟨rfl, hb_w2⟩; have hB_w2 : Below w.heap.size w w2 := bon hB1 (hB1).size hb_w2; have K2 := Blk.below hb_w2 HK2.out; have K3 := Blk.below hb_w2 HK3.out; clear hb_w2 HK2 HK3 p0 p1 p2 q0 q1 q2
        obtain ⟨⟨p0, _⟩, ⟨p1, _⟩, p2, _⟩ := K2.c3; obtain ⟨⟨q0, _⟩, ⟨q1, _⟩, q2, _⟩ := K3.c3; have HK2 := Lib.hid K2; have HK3 := Lib.hid K3; clear K2 K3; go_wp2_with fail; refine (HV1.out _ hB_w2).mono ?_; rintro e w3 ⟨rfl, hb_w3⟩; have hB_w3 : Below w.heap.size w w3 := bon hB_w2 (hB_w2).size hb_w3; have K2 := Blk.below hb_w3 HK2.out; have K3 := Blk.below hb_w3 HK3.out; clear hb_w3 HK2 HK3 p0 p1 p2 q0 q1 q2
        clear K2 K3; go_wp2_with fail; (refine (lbex_true _).mono ?_; rintro e wx ⟨rfl, hb_wx⟩; have hBx : Below w.heap.size w wx := bon hB_w3 (by first | exact (hB_w3).size | (simp; omega)) hb_wx; clear hb_wx; go_wp2_with fail; go_ret; exact ⟨rfl, hBx⟩)
      | true =>
        rw [kd] at hV1
        have HV1 := Lib.hid hV1
        clear hV1
        cases ks : bufB sw sh s with
        | false =>
          rw [ks] at hV2
          have HV2 := Lib.hid hV2
          clear hV2 kd ks okd oks
          go_enter Try.func12, Try.ntmps12; go_wp2_with fail; refine (HS1.out _).mono ?_; rintro e w1 ⟨rfl, hb_w1⟩; have hB1 : Below w.heap.size w w1 := bon (by (with_reducible repeat (first | assumption | exact Below.refl _ _ | refine Below.setCell ?_ (by first | omega | (simp; done) | (simp; omega)) _ | refine Below.drew ?_ | refine bdrewN ?_ _ | refine Below.alloc ?_ (by first | omega | (simp; done) | (simp; omega)) _))) (by simp; try omega) hb_w1; have K2 : Blk w1 w.heap.size 27 #[.int .i64 dw, .int .i64 dh, .slice Ad n c1] := Blk.below hb_w1 (by (with_reducible repeat (first | assumption | (refine Blk.newAt ?_; first | rfl | (simp; done)) | refine Blk.alloc ?_ _ | refine Blk.drew ?_ | refine Blk.other ?_ (by simp) _))); have K3 : Blk w1 (w.heap.size + 1) 27 #[.int .i64 sw, .int .i64 sh, .slice As ns c2] := Blk.below hb_w1 (by (with_reducible repeat (first | assumption | (refine Blk.newAt ?_; first | rfl | (simp; done)) | refine Blk.alloc ?_ _ | refine Blk.drew ?_ | refine Blk.other ?_ (by simp) _))); clear hb_w1
          obtain ⟨⟨p0, _⟩, ⟨p1, _⟩, p2, _⟩ := K2.c3; obtain ⟨⟨q0, _⟩, ⟨q1, _⟩, q2, _⟩ := K3.c3; have HK2 := Lib.hid K2; have HK3 := Lib.hid K3; clear K2 K3; go_wp2_with fail; refine (HS2.out _).mono ?_; rintro e w2 ⟨rfl, hb_w2⟩; have hB_w2 : Below w.heap.size w w2 := bon hB1 (hB1).size hb_w2; have K2 := Blk.below hb_w2 HK2.out; have K3 := Blk.below hb_w2 HK3.out; clear hb_w2 HK2 HK3 p0 p1 p2 q0 q1 q2
          obtain ⟨⟨p0, _⟩, ⟨p1, _⟩, p2, _⟩ := K2.c3; obtain ⟨⟨q0, _⟩, ⟨q1, _⟩, q2, _⟩ := K3.c3; have HK2 := Lib.hid K2; have HK3 := Lib.hid K3; clear K2 K3; go_wp2_with fail; refine (HV1.out _ hB_w2).mono ?_; rintro e w3 ⟨rfl, hb_w3⟩; have hB_w3 : Below w.heap.size w w3 := bon hB_w2 (hB_w2).size hb_w3; have K2 := Blk.below hb_w3 HK2.out; have K3 := Blk.below hb_w3 HK3.out; clear hb_w3 HK2 HK3 p0 p1 p2 q0 q1 q2
          obtain ⟨⟨p0, _⟩, ⟨p1, _⟩, p2, _⟩ := K2.c3; obtain ⟨⟨q0, _⟩, ⟨q1, _⟩, q2, _⟩ := K3.c3; have HK2 := Lib.hid K2; have HK3 := Lib.hid K3; clear K2 K3; go_wp2_with fail; refine (HV2.out _ hB_w3).mono ?_; rintro e w4 ⟨rfl, hb_w4⟩; have hB_w4 : Below w.heap.size w w4 := bon hB_w3 (hB_w3).size hb_w4; have K2 := Blk.below hb_w4 HK2.out; have K3 := Blk.below hb_w4 HK3.out; clear hb_w4 HK2 HK3 p0 p1 p2 q0 q1 q2
          clear K2 K3; go_wp2_with fail; (refine (lbex_true _).mono ?_; rintro e wx ⟨rfl, hb_wx⟩; have hBx : Below w.heap.size w wx := bon hB_w4 (by first | exact (hB_w4).size | (simp; omega)) hb_wx; clear hb_wx; go_wp2_with fail; go_ret; exact ⟨rfl, hBx⟩)
        | true =>
          rw [ks] at hV2
          have HV2 := Lib.hid hV2
          clear hV2
          obtain ⟨W, H, rfl, rfl, hW, hH, hd⟩ := bufB_nat kd
          obtain ⟨SW, SH, rfl, rfl, hSW, hSH, hs⟩ := bufB_nat ks
          have hsz := (bufB_iff _ _ _).1 kd
          have hz1 : szB (W : Int) = true ∧ szB (H : Int) = true := ⟨(szB_iff _).2 (by omega), (szB_iff _).2 (by omega)⟩
          have hz0 : bufB W H (List.replicate (W * H) px0) = true := by
            rw [bufB_iff]
            exact ⟨by omega, by omega, by rw [List.length_replicate]; simp, List.all_eq_true.2 fun p hp => by rw [List.eq_of_mem_replicate hp]; rfl⟩
          have okz : PxsOk (List.replicate (W * H) px0) := fun p hp => by
            rw [List.eq_of_mem_replicate hp]
            exact ⟨⟨by decide, by decide⟩, ⟨by decide, by decide⟩, ⟨by decide, by decide⟩, by decide, by decide⟩
          have hP1 : ∀ W0, Below w.heap.size w W0 → Calls Try.prog 32 #[bufv W H (.slice Ad n c1), bufv W H (.slice Ad n c1), .int .i64 0, .int .i64 0] W0 (BufE W0 (W, H, d) 0) := by
            intro W0 h
            have k := bpaste_any W H Ad d c1 W H Ad d c1 0 0 W0 (HRD.out.below h) (HRD.out.below h) (by rw [HN.out]; omega) (by rw [HN.out]; omega) okd okd
            obtain ⟨e1, e2⟩ := put_ok (f := cpy) (0 : Int) (0 : Int) ⟨kd, kd⟩
            rw [e1, e2, Int.toNat_natCast, put_self hd (by omega), HN.out] at k
            exact k
          have hNw : ∀ W0, Calls Try.prog 37 #[.int .i64 W, .int .i64 H, px 0 0 0 0] W0 (BufE W0 (W, H, List.replicate (W * H) px0) 0) := by
            intro W0
            have k := bnew_any W H 0 0 0 0 W0
            obtain ⟨e1, e2⟩ := new_ok (p := ⟨0, 0, 0, 0⟩) hz1 rfl
            rw [e1, e2] at k
            exact k
          have hP2 : ∀ W0 A2 k2, Below w.heap.size w W0 → Rdp W0 A2 (List.replicate (W * H) px0) → (List.replicate (W * H) px0).length ≤ k2 ∧ k2 ≤ 9223372036854775807 → Calls Try.prog 35 #[bufv W H (.slice Ad n c1), bufv W H (.slice A2 (List.replicate (W * H) px0).length k2), .int .i64 0, .int .i64 0] W0 (BufE W0 (W, H, d) 0) := by
            intro W0 A2 k2 h h2 h3
            have k := bblend_any W H Ad d c1 W H A2 (List.replicate (W * H) px0) k2 0 0 W0 (HRD.out.below h) h2 (by rw [HN.out]; omega) h3 okd okz
            obtain ⟨e1, e2⟩ := put_ok (f := bld) (0 : Int) (0 : Int) ⟨kd, hz0⟩
            rw [e1, e2, Int.toNat_natCast, put_zero hsz.2.2.2 okd, HN.out] at k
            exact k
          have hP3 : ∀ W0, Below w.heap.size w W0 → Calls Try.prog 32 #[bufv W H (.slice Ad n c1), bufv SW SH (.slice As ns c2), .int .i64 W, .int .i64 0] W0 (BufE W0 (W, H, d) 0) := by
            intro W0 h
            have k := bpaste_any W H Ad d c1 SW SH As s c2 W 0 W0 (HRD.out.below h) (HRS.out.below h) (by rw [HN.out]; omega) (by rw [HNS.out]; omega) okd oks
            obtain ⟨e1, e2⟩ := put_ok (f := cpy) (W : Int) (0 : Int) ⟨kd, ks⟩
            rw [e1, e2, Int.toNat_natCast, put_right (by omega), HN.out, HNS.out] at k
            exact k
          have hP4 : ∀ W0, Below w.heap.size w W0 → Calls Try.prog 35 #[bufv W H (.slice Ad n c1), bufv SW SH (.slice As ns c2), .int .i64 0, .int .i64 (-(SH : Int))] W0 (BufE W0 (W, H, d) 0) := by
            intro W0 h
            have k := bblend_any W H Ad d c1 SW SH As s c2 0 (-(SH : Int)) W0 (HRD.out.below h) (HRS.out.below h) (by rw [HN.out]; omega) (by rw [HNS.out]; omega) okd oks
            obtain ⟨e1, e2⟩ := put_ok (f := bld) (0 : Int) (-(SH : Int)) ⟨kd, ks⟩
            rw [e1, e2, Int.toNat_natCast, put_above, HN.out, HNS.out] at k
            exact k
          have hEq : ∀ W0 A2 k2, Below w.heap.size w W0 → Rdp W0 A2 d → Calls Try.prog 16 #[bufv W H (.slice A2 n k2), bufv W H (.slice Ad n c1)] W0 fun e w' => e = .returned (.bool true) ∧ Below W0.heap.size W0 w' := by
            intro W0 A2 k2 h h2
            have k := vequal_any W H A2 d k2 W H Ad d c1 W0 h2 (HRD.out.below h) (by rw [HN.out]; omega) (by rw [HN.out]; omega)
            rw [eqB_self, HN.out] at k
            exact k
          have hlz : (List.replicate (W * H) px0).length ≤ 9223372036854775807 := by
            have := Nat.mul_le_mul hW.2 hH.2
            rw [List.length_replicate]; omega
          obtain ⟨Z, hZ⟩ : ∃ Z, List.replicate (W * H) px0 = Z := ⟨_, rfl⟩
          rw [hZ] at hNw hP2 hlz
          have HP1 := Lib.hid hP1
          have HNW := Lib.hid hNw
          have HP2 := Lib.hid hP2
          have HP3 := Lib.hid hP3
          have HP4 := Lib.hid hP4
          have HEQ := Lib.hid hEq
          clear hP1 hNw hP2 hP3 hP4 hEq hZ hz0 hz1 hsz okz kd ks hd hs okd oks
          go_enter Try.func12, Try.ntmps12; go_wp2_with fail; refine (HS1.out _).mono ?_; rintro e w1 ⟨rfl, hb_w1⟩; have hB1 : Below w.heap.size w w1 := bon (by (with_reducible repeat (first | assumption | exact Below.refl _ _ | refine Below.setCell ?_ (by first | omega | (simp; done) | (simp; omega)) _ | refine Below.drew ?_ | refine bdrewN ?_ _ | refine Below.alloc ?_ (by first | omega | (simp; done) | (simp; omega)) _))) (by simp; try omega) hb_w1; have K2 : Blk w1 w.heap.size 27 #[.int .i64 W, .int .i64 H, .slice Ad n c1] := Blk.below hb_w1 (by (with_reducible repeat (first | assumption | (refine Blk.newAt ?_; first | rfl | (simp; done)) | refine Blk.alloc ?_ _ | refine Blk.drew ?_ | refine Blk.other ?_ (by simp) _))); have K3 : Blk w1 (w.heap.size + 1) 27 #[.int .i64 SW, .int .i64 SH, .slice As ns c2] := Blk.below hb_w1 (by (with_reducible repeat (first | assumption | (refine Blk.newAt ?_; first | rfl | (simp; done)) | refine Blk.alloc ?_ _ | refine Blk.drew ?_ | refine Blk.other ?_ (by simp) _))); clear hb_w1
          obtain ⟨⟨p0, _⟩, ⟨p1, _⟩, p2, _⟩ := K2.c3; obtain ⟨⟨q0, _⟩, ⟨q1, _⟩, q2, _⟩ := K3.c3; have HK2 := Lib.hid K2; have HK3 := Lib.hid K3; clear K2 K3; go_wp2_with fail; refine (HS2.out _).mono ?_; rintro e w2 ⟨rfl, hb_w2⟩; have hB_w2 : Below w.heap.size w w2 := bon hB1 (hB1).size hb_w2; have K2 := Blk.below hb_w2 HK2.out; have K3 := Blk.below hb_w2 HK3.out; clear hb_w2 HK2 HK3 p0 p1 p2 q0 q1 q2
          obtain ⟨⟨p0, _⟩, ⟨p1, _⟩, p2, _⟩ := K2.c3; obtain ⟨⟨q0, _⟩, ⟨q1, _⟩, q2, _⟩ := K3.c3; have HK2 := Lib.hid K2; have HK3 := Lib.hid K3; clear K2 K3; go_wp2_with fail; refine (HV1.out _ hB_w2).mono ?_; rintro e w3 ⟨rfl, hb_w3⟩; have hB_w3 : Below w.heap.size w w3 := bon hB_w2 (hB_w2).size hb_w3; have K2 := Blk.below hb_w3 HK2.out; have K3 := Blk.below hb_w3 HK3.out; clear hb_w3 HK2 HK3 p0 p1 p2 q0 q1 q2
          obtain ⟨⟨p0, _⟩, ⟨p1, _⟩, p2, _⟩ := K2.c3; obtain ⟨⟨q0, _⟩, ⟨q1, _⟩, q2, _⟩ := K3.c3; have HK2 := Lib.hid K2; have HK3 := Lib.hid K3; clear K2 K3; go_wp2_with fail; refine (HV2.out _ hB_w3).mono ?_; rintro e w4 ⟨rfl, hb_w4⟩; have hB_w4 : Below w.heap.size w w4 := bon hB_w3 (hB_w3).size hb_w4; have K2 := Blk.below hb_w4 HK2.out; have K3 := Blk.below hb_w4 HK3.out; clear hb_w4 HK2 HK3 p0 p1 p2 q0 q1 q2
          obtain ⟨⟨p0, _⟩, ⟨p1, _⟩, p2, _⟩ := K2.c3
          obtain ⟨⟨q0, _⟩, ⟨q1, _⟩, q2, _⟩ := K3.c3
          have HK2 := Lib.hid K2
          have HK3 := Lib.hid K3
          clear K2 K3 HS1 HS2 HV1 HV2
          go_wp2_with fail
          refine (HP1.out _ hB_w4).mono ?_; intro e w5 h5; obtain ⟨A5, k5, rfl, hb5, hr5, _, _⟩ := bufE_atU h5
          rw [HN.out]
          have hB5 : Below w.heap.size w w5 := bon hB_w4 hB_w4.size hb5
          have K2 := Blk.below hb5 HK2.out
          have K3 := Blk.below hb5 HK3.out
          have HR5 := Lib.hid hr5
          clear h5 hb5 hr5 p0 p1 p2 q0 q1 q2
          obtain ⟨⟨p0, _⟩, ⟨p1, _⟩, p2, _⟩ := K2.c3
          obtain ⟨⟨q0, _⟩, ⟨q1, _⟩, q2, _⟩ := K3.c3
          have hz2 := K2.lt
          have hz3 := K3.lt
          have HK2 := Lib.hid K2
          have HK3 := Lib.hid K3
          clear K2 K3
          go_wp2_with fail
          generalize hWd : World.alloc _ _ = v5
          have hW5 : Below w5.heap.size w5 v5 := by subst hWd; (with_reducible repeat (first | assumption | exact Below.refl _ _ | refine Below.setCell ?_ (by first | omega | (simp; done) | (simp; omega)) _ | refine Below.drew ?_ | refine bdrewN ?_ _ | refine Below.alloc ?_ (by first | omega | (simp; done) | (simp; omega)) _))
          have J5 : Blk v5 w5.heap.size 27 #[.int .i64 W, .int .i64 H, .slice A5 n k5] := by subst hWd; (with_reducible repeat (first | assumption | (refine Blk.newAt ?_; first | rfl | (simp; done)) | refine Blk.alloc ?_ _ | refine Blk.drew ?_ | refine Blk.other ?_ (by simp) _))
          clear hWd
          refine (HNW.out _).mono ?_; intro e w6 h6; obtain ⟨A6, k6, rfl, hb6, hr6, hk6, hm6⟩ := bufE_atU h6
          have hb56 : Below w5.heap.size w5 w6 := bon hW5 hW5.size hb6
          have hB6 : Below w.heap.size w w6 := bon hB5 hB5.size hb56
          clear p0 p1 p2 q0 q1 q2
          have K2 := Blk.below hb56 HK2.out
          have K3 := Blk.below hb56 HK3.out
          replace J5 := Blk.below hb6 J5
          have HR5 := Lib.hid (HR5.out.below hb56)
          have HR6 := Lib.hid hr6
          clear h6 hb6 hr6 hb56 hW5
          obtain ⟨⟨p0, _⟩, ⟨p1, _⟩, p2, _⟩ := K2.c3
          obtain ⟨⟨q0, _⟩, ⟨q1, _⟩, q2, _⟩ := K3.c3
          have hz2 := K2.lt
          have hz3 := K3.lt
          obtain ⟨⟨r50, _⟩, ⟨r51, _⟩, r52, _⟩ := J5.c3
          have hzj5 := J5.lt
          have HK2 := Lib.hid K2
          have HK3 := Lib.hid K3
          have HJ5 := Lib.hid J5
          clear K2 K3 J5
          go_wp2_with fail
          generalize hWd : World.alloc _ _ = v6
          have hW6 : Below w6.heap.size w6 v6 := by subst hWd; (with_reducible repeat (first | assumption | exact Below.refl _ _ | refine Below.setCell ?_ (by first | omega | (simp; done) | (simp; omega)) _ | refine Below.drew ?_ | refine bdrewN ?_ _ | refine Below.alloc ?_ (by first | omega | (simp; done) | (simp; omega)) _))
          have J6 : Blk v6 w6.heap.size 27 #[.int .i64 W, .int .i64 H, .slice A6 Z.length k6] := by subst hWd; (with_reducible repeat (first | assumption | (refine Blk.newAt ?_; first | rfl | (simp; done)) | refine Blk.alloc ?_ _ | refine Blk.drew ?_ | refine Blk.other ?_ (by simp) _))
          clear hWd
          refine (HP2.out _ A6 k6 (bon hB6 hB6.size hW6) (HR6.out.below hW6) ⟨hk6, hm6⟩).mono ?_; intro e w7 h7; obtain ⟨A7, k7, rfl, hb7, hr7, hk7, hm7⟩ := bufE_atU h7
          rw [HN.out]
          have hb67 : Below w6.heap.size w6 w7 := bon hW6 hW6.size hb7
          have hB7 : Below w.heap.size w w7 := bon hB6 hB6.size hb67
          clear p0 p1 p2 q0 q1 q2 r50 r51 r52
          have K2 := Blk.below hb67 HK2.out
          have K3 := Blk.below hb67 HK3.out
          have J5 := Blk.below hb67 HJ5.out
          replace J6 := Blk.below hb7 J6
          have HR5 := Lib.hid (HR5.out.below hb67)
          have HR6 := Lib.hid (HR6.out.below hb67)
          have HR7 := Lib.hid hr7
          clear h7 hb7 hr7 hb67 hW6
          obtain ⟨⟨p0, _⟩, ⟨p1, _⟩, p2, _⟩ := K2.c3
          obtain ⟨⟨q0, _⟩, ⟨q1, _⟩, q2, _⟩ := K3.c3
          have hz2 := K2.lt
          have hz3 := K3.lt
          obtain ⟨⟨r50, _⟩, ⟨r51, _⟩, r52, _⟩ := J5.c3
          have hzj5 := J5.lt
          obtain ⟨⟨r60, _⟩, ⟨r61, _⟩, r62, _⟩ := J6.c3
          have hzj6 := J6.lt
          have HK2 := Lib.hid K2
          have HK3 := Lib.hid K3
          have HJ5 := Lib.hid J5
          have HJ6 := Lib.hid J6
          clear K2 K3 J5 J6
          go_wp2_with fail
          generalize hWd : World.alloc _ _ = v7
          have hW7 : Below w7.heap.size w7 v7 := by subst hWd; (with_reducible repeat (first | assumption | exact Below.refl _ _ | refine Below.setCell ?_ (by first | omega | (simp; done) | (simp; omega)) _ | refine Below.drew ?_ | refine bdrewN ?_ _ | refine Below.alloc ?_ (by first | omega | (simp; done) | (simp; omega)) _))
          have J7 : Blk v7 w7.heap.size 27 #[.int .i64 W, .int .i64 H, .slice A7 n k7] := by subst hWd; (with_reducible repeat (first | assumption | (refine Blk.newAt ?_; first | rfl | (simp; done)) | refine Blk.alloc ?_ _ | refine Blk.drew ?_ | refine Blk.other ?_ (by simp) _))
          clear hWd
          refine (HP3.out _ (bon hB7 hB7.size hW7)).mono ?_; intro e w8 h8; obtain ⟨A8, k8, rfl, hb8, hr8, hk8, hm8⟩ := bufE_atU h8
          rw [HN.out]
          have hb78 : Below w7.heap.size w7 w8 := bon hW7 hW7.size hb8
          have hB8 : Below w.heap.size w w8 := bon hB7 hB7.size hb78
          clear p0 p1 p2 q0 q1 q2 r50 r51 r52 r60 r61 r62
          have K2 := Blk.below hb78 HK2.out
          have K3 := Blk.below hb78 HK3.out
          have J5 := Blk.below hb78 HJ5.out
          have J6 := Blk.below hb78 HJ6.out
          replace J7 := Blk.below hb8 J7
          have HR5 := Lib.hid (HR5.out.below hb78)
          have HR6 := Lib.hid (HR6.out.below hb78)
          have HR7 := Lib.hid (HR7.out.below hb78)
          have HR8 := Lib.hid hr8
          clear h8 hb8 hr8 hb78 hW7
          obtain ⟨⟨p0, _⟩, ⟨p1, _⟩, p2, _⟩ := K2.c3
          obtain ⟨⟨q0, _⟩, ⟨q1, _⟩, q2, _⟩ := K3.c3
          have hz2 := K2.lt
          have hz3 := K3.lt
          obtain ⟨⟨r50, _⟩, ⟨r51, _⟩, r52, _⟩ := J5.c3
          have hzj5 := J5.lt
          obtain ⟨⟨r60, _⟩, ⟨r61, _⟩, r62, _⟩ := J6.c3
          have hzj6 := J6.lt
          obtain ⟨⟨r70, _⟩, ⟨r71, _⟩, r72, _⟩ := J7.c3
          have hzj7 := J7.lt
          have HK2 := Lib.hid K2
          have HK3 := Lib.hid K3
          have HJ5 := Lib.hid J5
          have HJ6 := Lib.hid J6
          have HJ7 := Lib.hid J7
          clear K2 K3 J5 J6 J7
          go_wp2_with fail
          generalize hWd : World.alloc _ _ = v8
          have hW8 : Below w8.heap.size w8 v8 := by subst hWd; (with_reducible repeat (first | assumption | exact Below.refl _ _ | refine Below.setCell ?_ (by first | omega | (simp; done) | (simp; omega)) _ | refine Below.drew ?_ | refine bdrewN ?_ _ | refine Below.alloc ?_ (by first | omega | (simp; done) | (simp; omega)) _))
          have J8 : Blk v8 w8.heap.size 27 #[.int .i64 W, .int .i64 H, .slice A8 n k8] := by subst hWd; (with_reducible repeat (first | assumption | (refine Blk.newAt ?_; first | rfl | (simp; done)) | refine Blk.alloc ?_ _ | refine Blk.drew ?_ | refine Blk.other ?_ (by simp) _))
          clear hWd
          refine (HP4.out _ (bon hB8 hB8.size hW8)).mono ?_; intro e w9 h9; obtain ⟨A9, k9, rfl, hb9, hr9, hk9, hm9⟩ := bufE_atU h9
          rw [HN.out]
          have hb89 : Below w8.heap.size w8 w9 := bon hW8 hW8.size hb9
          have hB9 : Below w.heap.size w w9 := bon hB8 hB8.size hb89
          clear p0 p1 p2 q0 q1 q2 r50 r51 r52 r60 r61 r62 r70 r71 r72
          have K2 := Blk.below hb89 HK2.out
          have K3 := Blk.below hb89 HK3.out
          have J5 := Blk.below hb89 HJ5.out
          have J6 := Blk.below hb89 HJ6.out
          have J7 := Blk.below hb89 HJ7.out
          replace J8 := Blk.below hb9 J8
          have HR5 := Lib.hid (HR5.out.below hb89)
          have HR6 := Lib.hid (HR6.out.below hb89)
          have HR7 := Lib.hid (HR7.out.below hb89)
          have HR8 := Lib.hid (HR8.out.below hb89)
          have HR9 := Lib.hid hr9
          clear h9 hb9 hr9 hb89 hW8
          obtain ⟨⟨p0, _⟩, ⟨p1, _⟩, p2, _⟩ := K2.c3
          obtain ⟨⟨q0, _⟩, ⟨q1, _⟩, q2, _⟩ := K3.c3
          have hz2 := K2.lt
          have hz3 := K3.lt
          obtain ⟨⟨r50, _⟩, ⟨r51, _⟩, r52, _⟩ := J5.c3
          have hzj5 := J5.lt
          obtain ⟨⟨r60, _⟩, ⟨r61, _⟩, r62, _⟩ := J6.c3
          have hzj6 := J6.lt
          obtain ⟨⟨r70, _⟩, ⟨r71, _⟩, r72, _⟩ := J7.c3
          have hzj7 := J7.lt
          obtain ⟨⟨r80, _⟩, ⟨r81, _⟩, r82, _⟩ := J8.c3
          have hzj8 := J8.lt
          have HK2 := Lib.hid K2
          have HK3 := Lib.hid K3
          have HJ5 := Lib.hid J5
          have HJ6 := Lib.hid J6
          have HJ7 := Lib.hid J7
          have HJ8 := Lib.hid J8
          clear K2 K3 J5 J6 J7 J8
          go_wp2_with fail
          generalize hWd : World.alloc _ _ = v9
          have hW9 : Below w9.heap.size w9 v9 := by subst hWd; (with_reducible repeat (first | assumption | exact Below.refl _ _ | refine Below.setCell ?_ (by first | omega | (simp; done) | (simp; omega)) _ | refine Below.drew ?_ | refine bdrewN ?_ _ | refine Below.alloc ?_ (by first | omega | (simp; done) | (simp; omega)) _))
          have J9 : Blk v9 w9.heap.size 27 #[.int .i64 W, .int .i64 H, .slice A9 n k9] := by subst hWd; (with_reducible repeat (first | assumption | (refine Blk.newAt ?_; first | rfl | (simp; done)) | refine Blk.alloc ?_ _ | refine Blk.drew ?_ | refine Blk.other ?_ (by simp) _))
          clear hWd
          have hB10 : Below w.heap.size w v9 := bon hB9 hB9.size hW9
          have K2 := Blk.below hW9 HK2.out
          have K3 := Blk.below hW9 HK3.out
          have J5 := Blk.below hW9 HJ5.out
          have J6 := Blk.below hW9 HJ6.out
          have J7 := Blk.below hW9 HJ7.out
          have J8 := Blk.below hW9 HJ8.out
          have HR5 := Lib.hid (HR5.out.below hW9)
          have HR6 := Lib.hid (HR6.out.below hW9)
          have HR7 := Lib.hid (HR7.out.below hW9)
          have HR8 := Lib.hid (HR8.out.below hW9)
          have HR9 := Lib.hid (HR9.out.below hW9)
          clear hW9 p0 p1 p2 q0 q1 q2 r50 r51 r52 r60 r61 r62 r70 r71 r72 r80 r81 r82
          have HK2 := Lib.hid K2
          have HK3 := Lib.hid K3
          have HJ5 := Lib.hid J5
          have HJ6 := Lib.hid J6
          have HJ7 := Lib.hid J7
          have HJ8 := Lib.hid J8
          have HJ9 := Lib.hid J9
          clear K2 K3 J5 J6 J7 J8 J9
          refine (HEQ.out _ A5 k5 hB10 HR5.out).mono ?_; rintro e u5 ⟨rfl, hbu5⟩
          have hBu5 : Below w.heap.size w u5 := bon hB10 (hB10).size hbu5
          have K2 := Blk.below hbu5 HK2.out
          have K3 := Blk.below hbu5 HK3.out
          have J5 := Blk.below hbu5 HJ5.out
          have J6 := Blk.below hbu5 HJ6.out
          have J7 := Blk.below hbu5 HJ7.out
          have J8 := Blk.below hbu5 HJ8.out
          have J9 := Blk.below hbu5 HJ9.out
          have HR5 := Lib.hid (HR5.out.below hbu5)
          have HR6 := Lib.hid (HR6.out.below hbu5)
          have HR7 := Lib.hid (HR7.out.below hbu5)
          have HR8 := Lib.hid (HR8.out.below hbu5)
          have HR9 := Lib.hid (HR9.out.below hbu5)
          clear hbu5
          obtain ⟨⟨p0, _⟩, ⟨p1, _⟩, p2, _⟩ := K2.c3
          obtain ⟨⟨q0, _⟩, ⟨q1, _⟩, q2, _⟩ := K3.c3
          have hz2 := K2.lt
          have hz3 := K3.lt
          obtain ⟨⟨r50, _⟩, ⟨r51, _⟩, r52, _⟩ := J5.c3
          have hzj5 := J5.lt
          obtain ⟨⟨r60, _⟩, ⟨r61, _⟩, r62, _⟩ := J6.c3
          have hzj6 := J6.lt
          obtain ⟨⟨r70, _⟩, ⟨r71, _⟩, r72, _⟩ := J7.c3
          have hzj7 := J7.lt
          obtain ⟨⟨r80, _⟩, ⟨r81, _⟩, r82, _⟩ := J8.c3
          have hzj8 := J8.lt
          obtain ⟨⟨r90, _⟩, ⟨r91, _⟩, r92, _⟩ := J9.c3
          have hzj9 := J9.lt
          have HK2 := Lib.hid K2
          have HK3 := Lib.hid K3
          have HJ5 := Lib.hid J5
          have HJ6 := Lib.hid J6
          have HJ7 := Lib.hid J7
          have HJ8 := Lib.hid J8
          have HJ9 := Lib.hid J9
          clear K2 K3 J5 J6 J7 J8 J9
          go_wp2_with fail
          have K2 := HK2.out
          have K3 := HK3.out
          have J5 := HJ5.out
          have J6 := HJ6.out
          have J7 := HJ7.out
          have J8 := HJ8.out
          have J9 := HJ9.out
          have HK2 := Lib.hid K2
          have HK3 := Lib.hid K3
          have HJ5 := Lib.hid J5
          have HJ6 := Lib.hid J6
          have HJ7 := Lib.hid J7
          have HJ8 := Lib.hid J8
          have HJ9 := Lib.hid J9
          clear K2 K3 J5 J6 J7 J8 J9
          refine (HEQ.out _ A7 k7 hBu5 HR7.out).mono ?_; rintro e u7 ⟨rfl, hbu7⟩
          have hBu7 : Below w.heap.size w u7 := bon hBu5 (hBu5).size hbu7
          clear p0 p1 p2 q0 q1 q2 r50 r51 r52 r60 r61 r62 r70 r71 r72 r80 r81 r82 r90 r91 r92
          have K2 := Blk.below hbu7 HK2.out
          have K3 := Blk.below hbu7 HK3.out
          have J5 := Blk.below hbu7 HJ5.out
          have J6 := Blk.below hbu7 HJ6.out
          have J7 := Blk.below hbu7 HJ7.out
          have J8 := Blk.below hbu7 HJ8.out
          have J9 := Blk.below hbu7 HJ9.out
          have HR5 := Lib.hid (HR5.out.below hbu7)
          have HR6 := Lib.hid (HR6.out.below hbu7)
          have HR7 := Lib.hid (HR7.out.below hbu7)
          have HR8 := Lib.hid (HR8.out.below hbu7)
          have HR9 := Lib.hid (HR9.out.below hbu7)
          clear hbu7
          obtain ⟨⟨p0, _⟩, ⟨p1, _⟩, p2, _⟩ := K2.c3
          obtain ⟨⟨q0, _⟩, ⟨q1, _⟩, q2, _⟩ := K3.c3
          have hz2 := K2.lt
          have hz3 := K3.lt
          obtain ⟨⟨r50, _⟩, ⟨r51, _⟩, r52, _⟩ := J5.c3
          have hzj5 := J5.lt
          obtain ⟨⟨r60, _⟩, ⟨r61, _⟩, r62, _⟩ := J6.c3
          have hzj6 := J6.lt
          obtain ⟨⟨r70, _⟩, ⟨r71, _⟩, r72, _⟩ := J7.c3
          have hzj7 := J7.lt
          obtain ⟨⟨r80, _⟩, ⟨r81, _⟩, r82, _⟩ := J8.c3
          have hzj8 := J8.lt
          obtain ⟨⟨r90, _⟩, ⟨r91, _⟩, r92, _⟩ := J9.c3
          have hzj9 := J9.lt
          have HK2 := Lib.hid K2
          have HK3 := Lib.hid K3
          have HJ5 := Lib.hid J5
          have HJ6 := Lib.hid J6
          have HJ7 := Lib.hid J7
          have HJ8 := Lib.hid J8
          have HJ9 := Lib.hid J9
          clear K2 K3 J5 J6 J7 J8 J9
          go_wp2_with fail
          have K2 := HK2.out
          have K3 := HK3.out
          have J5 := HJ5.out
          have J6 := HJ6.out
          have J7 := HJ7.out
          have J8 := HJ8.out
          have J9 := HJ9.out
          have HK2 := Lib.hid K2
          have HK3 := Lib.hid K3
          have HJ5 := Lib.hid J5
          have HJ6 := Lib.hid J6
          have HJ7 := Lib.hid J7
          have HJ8 := Lib.hid J8
          have HJ9 := Lib.hid J9
          clear K2 K3 J5 J6 J7 J8 J9
          refine (HEQ.out _ A8 k8 hBu7 HR8.out).mono ?_; rintro e u8 ⟨rfl, hbu8⟩
          have hBu8 : Below w.heap.size w u8 := bon hBu7 (hBu7).size hbu8
          clear p0 p1 p2 q0 q1 q2 r50 r51 r52 r60 r61 r62 r70 r71 r72 r80 r81 r82 r90 r91 r92
          have K2 := Blk.below hbu8 HK2.out
          have K3 := Blk.below hbu8 HK3.out
          have J5 := Blk.below hbu8 HJ5.out
          have J6 := Blk.below hbu8 HJ6.out
          have J7 := Blk.below hbu8 HJ7.out
          have J8 := Blk.below hbu8 HJ8.out
          have J9 := Blk.below hbu8 HJ9.out
          have HR5 := Lib.hid (HR5.out.below hbu8)
          have HR6 := Lib.hid (HR6.out.below hbu8)
          have HR7 := Lib.hid (HR7.out.below hbu8)
          have HR8 := Lib.hid (HR8.out.below hbu8)
          have HR9 := Lib.hid (HR9.out.below hbu8)
          clear hbu8
          obtain ⟨⟨p0, _⟩, ⟨p1, _⟩, p2, _⟩ := K2.c3
          obtain ⟨⟨q0, _⟩, ⟨q1, _⟩, q2, _⟩ := K3.c3
          have hz2 := K2.lt
          have hz3 := K3.lt
          obtain ⟨⟨r50, _⟩, ⟨r51, _⟩, r52, _⟩ := J5.c3
          have hzj5 := J5.lt
          obtain ⟨⟨r60, _⟩, ⟨r61, _⟩, r62, _⟩ := J6.c3
          have hzj6 := J6.lt
          obtain ⟨⟨r70, _⟩, ⟨r71, _⟩, r72, _⟩ := J7.c3
          have hzj7 := J7.lt
          obtain ⟨⟨r80, _⟩, ⟨r81, _⟩, r82, _⟩ := J8.c3
          have hzj8 := J8.lt
          obtain ⟨⟨r90, _⟩, ⟨r91, _⟩, r92, _⟩ := J9.c3
          have hzj9 := J9.lt
          have HK2 := Lib.hid K2
          have HK3 := Lib.hid K3
          have HJ5 := Lib.hid J5
          have HJ6 := Lib.hid J6
          have HJ7 := Lib.hid J7
          have HJ8 := Lib.hid J8
          have HJ9 := Lib.hid J9
          clear K2 K3 J5 J6 J7 J8 J9
          go_wp2_with fail
          have K2 := HK2.out
          have K3 := HK3.out
          have J5 := HJ5.out
          have J6 := HJ6.out
          have J7 := HJ7.out
          have J8 := HJ8.out
          have J9 := HJ9.out
          have HK2 := Lib.hid K2
          have HK3 := Lib.hid K3
          have HJ5 := Lib.hid J5
          have HJ6 := Lib.hid J6
          have HJ7 := Lib.hid J7
          have HJ8 := Lib.hid J8
          have HJ9 := Lib.hid J9
          clear K2 K3 J5 J6 J7 J8 J9
          refine (HEQ.out _ A9 k9 hBu8 HR9.out).mono ?_; rintro e u9 ⟨rfl, hbu9⟩
          have hBu9 : Below w.heap.size w u9 := bon hBu8 (hBu8).size hbu9
          clear hbu9
          go_wp2_with fail
          (refine (lbex_true _).mono ?_; rintro e wx ⟨rfl, hb_wx⟩; have hBx : Below w.heap.size w wx := bon hBu9 (by first | exact (hBu9).size | (simp; omega)) hb_wx; clear hb_wx; go_wp2_with fail; go_ret; exact ⟨rfl, hBx⟩)
    · rw [decide_eq_false s2] at hS2
      have HS2 := Lib.hid hS2
      clear hS2 hV1 hV2 okd oks
      go_enter Try.func12, Try.ntmps12; go_wp2_with fail; refine (HS1.out _).mono ?_; rintro e w1 ⟨rfl, hb_w1⟩; have hB1 : Below w.heap.size w w1 := bon (by (with_reducible repeat (first | assumption | exact Below.refl _ _ | refine Below.setCell ?_ (by first | omega | (simp; done) | (simp; omega)) _ | refine Below.drew ?_ | refine bdrewN ?_ _ | refine Below.alloc ?_ (by first | omega | (simp; done) | (simp; omega)) _))) (by simp; try omega) hb_w1; have K2 : Blk w1 w.heap.size 27 #[.int .i64 dw, .int .i64 dh, .slice Ad n c1] := Blk.below hb_w1 (by (with_reducible repeat (first | assumption | (refine Blk.newAt ?_; first | rfl | (simp; done)) | refine Blk.alloc ?_ _ | refine Blk.drew ?_ | refine Blk.other ?_ (by simp) _))); have K3 : Blk w1 (w.heap.size + 1) 27 #[.int .i64 sw, .int .i64 sh, .slice As ns c2] := Blk.below hb_w1 (by (with_reducible repeat (first | assumption | (refine Blk.newAt ?_; first | rfl | (simp; done)) | refine Blk.alloc ?_ _ | refine Blk.drew ?_ | refine Blk.other ?_ (by simp) _))); clear hb_w1
      obtain ⟨⟨p0, _⟩, ⟨p1, _⟩, p2, _⟩ := K2.c3; obtain ⟨⟨q0, _⟩, ⟨q1, _⟩, q2, _⟩ := K3.c3; have HK2 := Lib.hid K2; have HK3 := Lib.hid K3; clear K2 K3; go_wp2_with fail; refine (HS2.out _).mono ?_; rintro e w2 ⟨rfl, hb_w2⟩; have hB_w2 : Below w.heap.size w w2 := bon hB1 (hB1).size hb_w2; have K2 := Blk.below hb_w2 HK2.out; have K3 := Blk.below hb_w2 HK3.out; clear hb_w2 HK2 HK3 p0 p1 p2 q0 q1 q2
      clear K2 K3; go_wp2_with fail; (refine (lbex_true _).mono ?_; rintro e wx ⟨rfl, hb_wx⟩; have hBx : Below w.heap.size w wx := bon hB_w2 (by first | exact (hB_w2).size | (simp; omega)) hb_wx; clear hb_wx; go_wp2_with fail; go_ret; exact ⟨rfl, hBx⟩)
  · rw [decide_eq_false s1] at hS1
    have HS1 := Lib.hid hS1
    clear hS1 hS2 hV1 hV2 okd oks
    go_enter Try.func12, Try.ntmps12; go_wp2_with fail; refine (HS1.out _).mono ?_; rintro e w1 ⟨rfl, hb_w1⟩; have hB1 : Below w.heap.size w w1 := bon (by (with_reducible repeat (first | assumption | exact Below.refl _ _ | refine Below.setCell ?_ (by first | omega | (simp; done) | (simp; omega)) _ | refine Below.drew ?_ | refine bdrewN ?_ _ | refine Below.alloc ?_ (by first | omega | (simp; done) | (simp; omega)) _))) (by simp; try omega) hb_w1; have K2 : Blk w1 w.heap.size 27 #[.int .i64 dw, .int .i64 dh, .slice Ad n c1] := Blk.below hb_w1 (by (with_reducible repeat (first | assumption | (refine Blk.newAt ?_; first | rfl | (simp; done)) | refine Blk.alloc ?_ _ | refine Blk.drew ?_ | refine Blk.other ?_ (by simp) _))); have K3 : Blk w1 (w.heap.size + 1) 27 #[.int .i64 sw, .int .i64 sh, .slice As ns c2] := Blk.below hb_w1 (by (with_reducible repeat (first | assumption | (refine Blk.newAt ?_; first | rfl | (simp; done)) | refine Blk.alloc ?_ _ | refine Blk.drew ?_ | refine Blk.other ?_ (by simp) _))); clear hb_w1
    clear K2 K3; go_wp2_with fail; (refine (lbex_true _).mono ?_; rintro e wx ⟨rfl, hb_wx⟩; have hBx : Below w.heap.size w wx := bon hB1 (by first | exact (hB1).size | (simp; omega)) hb_wx; clear hb_wx; go_wp2_with fail; go_ret; exact ⟨rfl, hBx⟩)
end Go.Proofs.Ytgikmcgoaihggaa
