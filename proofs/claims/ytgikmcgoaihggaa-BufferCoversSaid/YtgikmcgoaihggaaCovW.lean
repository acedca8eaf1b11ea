/- BufferCovers: the walk. -/
import Derived.Test.YtgikmcgoaihggaaBEx
import Derived.Test.YtgikmcgoaihggaaBEq
import Derived.Test.YtgikmcgoaihggaaCombB
import Derived.Test.YtgikmcgoaihggaaOpenB
import Derived.Deep.QuietTactic
import Derived.BigQuiet
set_option linter.unusedVariables false
set_option linter.unusedSimpArgs false
namespace Go.Proofs.Ytgikmcgoaihggaa
open Go.RowKit Go.Sort
attribute [local go_sem ↓] Go.wp_at_zero Go.wp_at_succ

theorem bufE_atC {w : World} {B1 B2 : Int} {ps : List Px} {E : Int} {e : Ending} {w' : World} (h : BufE w (B1, B2, ps) E e w') : ∃ A c, e = .returned (.tuple #[bufv B1 B2 (.slice A ps.length c), .int .i64 E]) ∧ Below w.heap.size w w' ∧ Rdp w' A ps ∧ ps.length ≤ c ∧ c ≤ 9223372036854775807 := by
  obtain ⟨v, he, hb, ho⟩ := h
  obtain ⟨A, c, rfl, h1, h2, hr⟩ := ho.form
  exact ⟨A, c, he, hb, hr, h1, h2⟩
theorem Blk.drewN {w : World} {i n : Nat} {e : TypeId} {cs : Array Value} (h : Blk w i e cs) : Blk (w.drewN n) i e cs := h
set_option maxRecDepth 100000 in
set_option maxHeartbeats 4000000 in
theorem buffercovers_any (dw dh : Int) (Ad : Option Addr) (d : List Px) (c1 : Nat) (sw sh : Int) (As : Option Addr) (s : List Px) (c2 : Nat) (x y : Int) (w : World) (hl1 : d.length ≤ c1 ∧ c1 ≤ 9223372036854775807) (hl2 : s.length ≤ c2 ∧ c2 ≤ 9223372036854775807) (rd : Rdp w Ad d) (rs : Rdp w As s) (okd : PxsOk d) (oks : PxsOk s) :
    Calls Try.prog 8 #[bufv dw dh (.slice Ad d.length c1), bufv sw sh (.slice As s.length c2), .agg #[.int .i64 x, .int .i64 y]] w fun e w' => e = .returned (.bool true) ∧ Below w.heap.size w w' := by
  have hS1 := fun W => lbsmall_any dw dh Ad d.length c1 W (by omega)
  have hS2 := fun W => lbsmall_any sw sh As s.length c2 W (by omega)
  have hV1 := fun W (h : Below w.heap.size w W) => vvalid_any dw dh Ad d c1 W (rd.below h) (by omega)
  have hV2 := fun W (h : Below w.heap.size w W) => vvalid_any sw sh As s c2 W (rs.below h) (by omega)
  have hP := fun W (h : Below w.heap.size w W) => bpaste_any dw dh Ad d c1 sw sh As s c2 x y W (rd.below h) (rs.below h) (by omega) hl2 okd oks
  obtain ⟨n, hn⟩ : ∃ n, d.length = n := ⟨_, rfl⟩
  obtain ⟨ns, hns⟩ : ∃ n, s.length = n := ⟨_, rfl⟩
  rw [hn] at hS1 hV1 hP hl1 ⊢
  rw [hns] at hS2 hV2 hP hl2 ⊢
  have HN := Lib.hid hn
  have HNS := Lib.hid hns
  have HRD := Lib.hid rd
  have HRS := Lib.hid rs
  have HP := Lib.hid hP
  clear hn hns rd rs hP
  obtain ⟨hl3, hl4⟩ := hl1
  obtain ⟨hl5, hl6⟩ := hl2
  by_cases s1 : n ≤ 400
  · rw [decide_eq_true s1] at hS1
    have HS1 := Lib.hid hS1
    clear hS1
    by_cases s2 : ns ≤ 400
    · rw [decide_eq_true s2] at hS2
      have HS2 := Lib.hid hS2
      clear hS2
      cases kd : bufB dw dh d with
      | false =>
        rw [kd] at hV1
        have HV1 := Lib.hid hV1
        clear hV1 hV2 kd okd oks
        go_enter Try.func8, Try.ntmps8; go_wp2_with fail; go_quiet (fail); go_wp2_with fail; refine (HS1.out _).mono ?_; rintro e w1 ⟨rfl, hb_w1⟩; have hB1 : Below w.heap.size w w1 := bon (by (with_reducible repeat (first | assumption | exact Below.refl _ _ | refine Below.setCell ?_ (by first | omega | (simp; done) | (simp; omega)) _ | refine Below.drew ?_ | refine bdrewN ?_ _ | refine Below.alloc ?_ (by first | omega | (simp; done) | (simp; omega)) _))) (by simp; try omega) hb_w1; have K3 : Blk w1 w.heap.size 27 #[.int .i64 dw, .int .i64 dh, .slice Ad n c1] := Blk.below hb_w1 (Blk.drewN (by (with_reducible repeat (first | assumption | (refine Blk.newAt ?_; first | rfl | (simp; done)) | refine Blk.alloc ?_ _ | refine Blk.drew ?_ | refine Blk.other ?_ (by simp) _)))); have K4 : Blk w1 (w.heap.size + 1) 27 #[.int .i64 sw, .int .i64 sh, .slice As ns c2] := Blk.below hb_w1 (Blk.drewN (by (with_reducible repeat (first | assumption | (refine Blk.newAt ?_; first | rfl | (simp; done)) | refine Blk.alloc ?_ _ | refine Blk.drew ?_ | refine Blk.other ?_ (by simp) _)))); clear hb_w1
        obtain ⟨⟨p0, _⟩, ⟨p1, _⟩, p2, _⟩ := K3.c3; obtain ⟨⟨q0, _⟩, ⟨q1, _⟩, q2, _⟩ := K4.c3; have HK3 := Lib.hid K3; have HK4 := Lib.hid K4; clear K3 K4; go_wp2_with fail; refine (HS2.out _).mono ?_; rintro e w2 ⟨rfl, hb_w2⟩; have hB_w2 : Below w.heap.size w w2 := bon hB1 (hB1).size hb_w2; have K3 := Blk.below hb_w2 HK3.out; have K4 := Blk.below hb_w2 HK4.out; clear hb_w2 HK3 HK4 p0 p1 p2 q0 q1 q2
        obtain ⟨⟨p0, _⟩, ⟨p1, _⟩, p2, _⟩ := K3.c3; obtain ⟨⟨q0, _⟩, ⟨q1, _⟩, q2, _⟩ := K4.c3; have HK3 := Lib.hid K3; have HK4 := Lib.hid K4; clear K3 K4; go_wp2_with fail; refine (HV1.out _ hB_w2).mono ?_; rintro e w3 ⟨rfl, hb_w3⟩; have hB_w3 : Below w.heap.size w w3 := bon hB_w2 (hB_w2).size hb_w3; have K3 := Blk.below hb_w3 HK3.out; have K4 := Blk.below hb_w3 HK4.out; clear hb_w3 HK3 HK4 p0 p1 p2 q0 q1 q2
        clear K3 K4; go_wp2_with fail; (refine (lbex_true _).mono ?_; rintro e wx ⟨rfl, hb_wx⟩; have hBx : Below w.heap.size w wx := bon hB_w3 (by first | exact (hB_w3).size | (simp; omega)) hb_wx; clear hb_wx; go_wp2_with fail; go_ret; exact ⟨rfl, hBx⟩)
      | true =>
        rw [kd] at hV1
        have HV1 := Lib.hid hV1
        clear hV1
        cases ks : bufB sw sh s with
        | false =>
          rw [ks] at hV2
          have HV2 := Lib.hid hV2
          clear hV2 kd ks okd oks
          go_enter Try.func8, Try.ntmps8; go_wp2_with fail; go_quiet (fail); go_wp2_with fail; refine (HS1.out _).mono ?_; rintro e w1 ⟨rfl, hb_w1⟩; have hB1 : Below w.heap.size w w1 := bon (by (with_reducible repeat (first | assumption | exact Below.refl _ _ | refine Below.setCell ?_ (by first | omega | (simp; done) | (simp; omega)) _ | refine Below.drew ?_ | refine bdrewN ?_ _ | refine Below.alloc ?_ (by first | omega | (simp; done) | (simp; omega)) _))) (by simp; try omega) hb_w1; have K3 : Blk w1 w.heap.size 27 #[.int .i64 dw, .int .i64 dh, .slice Ad n c1] := Blk.below hb_w1 (Blk.drewN (by (with_reducible repeat (first | assumption | (refine Blk.newAt ?_; first | rfl | (simp; done)) | refine Blk.alloc ?_ _ | refine Blk.drew ?_ | refine Blk.other ?_ (by simp) _)))); have K4 : Blk w1 (w.heap.size + 1) 27 #[.int .i64 sw, .int .i64 sh, .slice As ns c2] := Blk.below hb_w1 (Blk.drewN (by (with_reducible repeat (first | assumption | (refine Blk.newAt ?_; first | rfl | (simp; done)) | refine Blk.alloc ?_ _ | refine Blk.drew ?_ | refine Blk.other ?_ (by simp) _)))); clear hb_w1
          obtain ⟨⟨p0, _⟩, ⟨p1, _⟩, p2, _⟩ := K3.c3; obtain ⟨⟨q0, _⟩, ⟨q1, _⟩, q2, _⟩ := K4.c3; have HK3 := Lib.hid K3; have HK4 := Lib.hid K4; clear K3 K4; go_wp2_with fail; refine (HS2.out _).mono ?_; rintro e w2 ⟨rfl, hb_w2⟩; have hB_w2 : Below w.heap.size w w2 := bon hB1 (hB1).size hb_w2; have K3 := Blk.below hb_w2 HK3.out; have K4 := Blk.below hb_w2 HK4.out; clear hb_w2 HK3 HK4 p0 p1 p2 q0 q1 q2
          obtain ⟨⟨p0, _⟩, ⟨p1, _⟩, p2, _⟩ := K3.c3; obtain ⟨⟨q0, _⟩, ⟨q1, _⟩, q2, _⟩ := K4.c3; have HK3 := Lib.hid K3; have HK4 := Lib.hid K4; clear K3 K4; go_wp2_with fail; refine (HV1.out _ hB_w2).mono ?_; rintro e w3 ⟨rfl, hb_w3⟩; have hB_w3 : Below w.heap.size w w3 := bon hB_w2 (hB_w2).size hb_w3; have K3 := Blk.below hb_w3 HK3.out; have K4 := Blk.below hb_w3 HK4.out; clear hb_w3 HK3 HK4 p0 p1 p2 q0 q1 q2
          obtain ⟨⟨p0, _⟩, ⟨p1, _⟩, p2, _⟩ := K3.c3; obtain ⟨⟨q0, _⟩, ⟨q1, _⟩, q2, _⟩ := K4.c3; have HK3 := Lib.hid K3; have HK4 := Lib.hid K4; clear K3 K4; go_wp2_with fail; refine (HV2.out _ hB_w3).mono ?_; rintro e w4 ⟨rfl, hb_w4⟩; have hB_w4 : Below w.heap.size w w4 := bon hB_w3 (hB_w3).size hb_w4; have K3 := Blk.below hb_w4 HK3.out; have K4 := Blk.below hb_w4 HK4.out; clear hb_w4 HK3 HK4 p0 p1 p2 q0 q1 q2
          clear K3 K4; go_wp2_with fail; (refine (lbex_true _).mono ?_; rintro e wx ⟨rfl, hb_wx⟩; have hBx : Below w.heap.size w wx := bon hB_w4 (by first | exact (hB_w4).size | (simp; omega)) hb_wx; clear hb_wx; go_wp2_with fail; go_ret; exact ⟨rfl, hBx⟩)
        | true =>
          rw [ks] at hV2
          have HV2 := Lib.hid hV2
          clear hV2
          by_cases hxy : (-30 ≤ x ∧ x ≤ 30) ∧ -30 ≤ y ∧ y ≤ 30
          · obtain ⟨⟨x1, x2⟩, y1, y2⟩ := hxy
            have a0 : ¬ x < -30 := by omega
            have a1 : ¬ 30 < x := by omega
            have a2 : ¬ y < -30 := by omega
            have a3 : ¬ 30 < y := by omega
            obtain ⟨W, H, rfl, rfl, hW, hH, hd⟩ := bufB_nat kd
            obtain ⟨SW, SH, rfl, rfl, hSW, hSH, hs⟩ := bufB_nat ks
            obtain ⟨eE, eB⟩ := put_ok (f := cpy) x y ⟨kd, ks⟩
            have hP2 := HP.out
            rw [eE, eB, Int.toNat_natCast] at hP2
            have HP2 := Lib.hid hP2
            have hML := putM_length (f := cpy) (d := d) (s := s) (W := W) (sw := SW) (sh := SH) (x := x) (y := y) (m := d.length)
            have HG := Lib.hid (fun q h => @putM_get cpy d s W SW SH x y d.length q h)
            have HML := Lib.hid (hML.trans HN.out)
            have HD := Lib.hid hd
            have HSL := Lib.hid hs
            clear kd ks eE eB hP2 HP hd hs okd oks hML
            obtain ⟨M, hM⟩ : ∃ M, putM cpy d s W SW SH x y d.length = M := ⟨_, rfl⟩
            rw [hM] at HP2 HML HG
            go_enter Try.func8, Try.ntmps8; go_wp2_with fail; go_quiet (fail); go_wp2_with fail; refine (HS1.out _).mono ?_; rintro e w1 ⟨rfl, hb_w1⟩; have hB1 : Below w.heap.size w w1 := bon (by (with_reducible repeat (first | assumption | exact Below.refl _ _ | refine Below.setCell ?_ (by first | omega | (simp; done) | (simp; omega)) _ | refine Below.drew ?_ | refine bdrewN ?_ _ | refine Below.alloc ?_ (by first | omega | (simp; done) | (simp; omega)) _))) (by simp; try omega) hb_w1; have K3 : Blk w1 w.heap.size 27 #[.int .i64 W, .int .i64 H, .slice Ad n c1] := Blk.below hb_w1 (Blk.drewN (by (with_reducible repeat (first | assumption | (refine Blk.newAt ?_; first | rfl | (simp; done)) | refine Blk.alloc ?_ _ | refine Blk.drew ?_ | refine Blk.other ?_ (by simp) _)))); have K4 : Blk w1 (w.heap.size + 1) 27 #[.int .i64 SW, .int .i64 SH, .slice As ns c2] := Blk.below hb_w1 (Blk.drewN (by (with_reducible repeat (first | assumption | (refine Blk.newAt ?_; first | rfl | (simp; done)) | refine Blk.alloc ?_ _ | refine Blk.drew ?_ | refine Blk.other ?_ (by simp) _)))); clear hb_w1
            obtain ⟨⟨p0, _⟩, ⟨p1, _⟩, p2, _⟩ := K3.c3; obtain ⟨⟨q0, _⟩, ⟨q1, _⟩, q2, _⟩ := K4.c3; have HK3 := Lib.hid K3; have HK4 := Lib.hid K4; clear K3 K4; go_wp2_with fail; refine (HS2.out _).mono ?_; rintro e w2 ⟨rfl, hb_w2⟩; have hB_w2 : Below w.heap.size w w2 := bon hB1 (hB1).size hb_w2; have K3 := Blk.below hb_w2 HK3.out; have K4 := Blk.below hb_w2 HK4.out; clear hb_w2 HK3 HK4 p0 p1 p2 q0 q1 q2
            obtain ⟨⟨p0, _⟩, ⟨p1, _⟩, p2, _⟩ := K3.c3; obtain ⟨⟨q0, _⟩, ⟨q1, _⟩, q2, _⟩ := K4.c3; have HK3 := Lib.hid K3; have HK4 := Lib.hid K4; clear K3 K4; go_wp2_with fail; refine (HV1.out _ hB_w2).mono ?_; rintro e w3 ⟨rfl, hb_w3⟩; have hB_w3 : Below w.heap.size w w3 := bon hB_w2 (hB_w2).size hb_w3; have K3 := Blk.below hb_w3 HK3.out; have K4 := Blk.below hb_w3 HK4.out; clear hb_w3 HK3 HK4 p0 p1 p2 q0 q1 q2
            obtain ⟨⟨p0, _⟩, ⟨p1, _⟩, p2, _⟩ := K3.c3; obtain ⟨⟨q0, _⟩, ⟨q1, _⟩, q2, _⟩ := K4.c3; have HK3 := Lib.hid K3; have HK4 := Lib.hid K4; clear K3 K4; go_wp2_with fail; refine (HV2.out _ hB_w3).mono ?_; rintro e w4 ⟨rfl, hb_w4⟩; have hB_w4 : Below w.heap.size w w4 := bon hB_w3 (hB_w3).size hb_w4; have K3 := Blk.below hb_w4 HK3.out; have K4 := Blk.below hb_w4 HK4.out; clear hb_w4 HK3 HK4 p0 p1 p2 q0 q1 q2
            obtain ⟨⟨p0, _⟩, ⟨p1, _⟩, p2, _⟩ := K3.c3
            obtain ⟨⟨q0, _⟩, ⟨q1, _⟩, q2, _⟩ := K4.c3
            have HK3 := Lib.hid K3
            have HK4 := Lib.hid K4
            clear K3 K4 HS1 HS2 HV1 HV2
            go_wp2_with fail
            refine (HP2.out _ hB_w4).mono ?_; intro e w5 h5; obtain ⟨A5, k5, rfl, hb5, hr5, hk5, hm5⟩ := bufE_atC h5
            rw [HML.out] at hk5 ⊢
            have hB5 : Below w.heap.size w w5 := bon hB_w4 hB_w4.size hb5
            have K3 := Blk.below hb5 HK3.out
            have K4 := Blk.below hb5 HK4.out
            obtain ⟨⟨p0, _⟩, ⟨p1, _⟩, p2, _⟩ := K3.c3
            obtain ⟨⟨q0, _⟩, ⟨q1, _⟩, q2, _⟩ := K4.c3
            have HR5 := Lib.hid hr5
            have HK3 := Lib.hid K3
            have HK4 := Lib.hid K4
            have hz3 := K3.lt
            have hz4 := K4.lt
            clear h5 hb5 hr5 K3 K4 hM
            go_wp2_with fail
            generalize hWd : World.alloc _ _ = w6
            have hb6 : Below w5.heap.size w5 w6 := by subst hWd; (with_reducible repeat (first | assumption | exact Below.refl _ _ | refine Below.setCell ?_ (by first | omega | (simp; done) | (simp; omega)) _ | refine Below.drew ?_ | refine bdrewN ?_ _ | refine Below.alloc ?_ (by first | omega | (simp; done) | (simp; omega)) _))
            have K9 : Blk w6 w5.heap.size 27 #[.int .i64 W, .int .i64 H, .slice A5 n k5] := by subst hWd; (with_reducible repeat (first | assumption | (refine Blk.newAt ?_; first | rfl | (simp; done)) | refine Blk.alloc ?_ _ | refine Blk.drew ?_ | refine Blk.other ?_ (by simp) _))
            have K3 := Blk.below hb6 HK3.out
            have K4 := Blk.below hb6 HK4.out
            have hB6 := bon hB5 hB5.size hb6
            have HRP := Lib.hid (HR5.out.below hb6)
            have HRD6 := Lib.hid (HRD.out.below hB6)
            have HRS6 := Lib.hid (HRS.out.below hB6)
            have HB6 := Lib.hid hB6
            have HK3 := Lib.hid K3
            have HK4 := Lib.hid K4
            have HK9 := Lib.hid K9
            clear hWd hb6 K3 K4 K9 hB6 p0 p1 p2 q0 q1 q2 hz3 hz4 hB5
            go_loopg [11] n (fun k s11 wr => ∃ i : Nat, k = n - i ∧ i ≤ n ∧ s11 = .int .i64 i ∧ Below w6.heap.size w6 wr)
            case atStart => exact ⟨0, by omega, by omega, by first | rfl | simp, Below.refl _ _⟩
            case round =>
              obtain ⟨i, hk, hi, rfl, hb⟩ := hrel
              obtain ⟨⟨p0, _⟩, ⟨p1, _⟩, p2, _⟩ := (Blk.below hb HK3.out).c3
              obtain ⟨⟨q0, _⟩, ⟨q1, _⟩, q2, _⟩ := (Blk.below hb HK4.out).c3
              obtain ⟨⟨r0, _⟩, ⟨r1, _⟩, r2, _⟩ := (Blk.below hb HK9.out).c3
              have HBr := Lib.hid hb
              clear hb
              by_cases hlt : i < n
              · have hb := HBr.out
                have hid : i < d.length := by rw [HN.out]; exact hlt
                have him : i < M.length := by rw [HML.out]; exact hlt
                have hget := HG.out i him
                rw [if_pos hid] at hget
                have hj : i / W < H := div_at (by rw [← HD.out, HN.out]; exact hlt)
                have hcW := Nat.mod_lt i (show 0 < W by omega)
                have hij := Nat.div_add_mod i W
                rw [Nat.mul_comm] at hij
                have hm1 : (i : Int) % (W : Int) = ((i % W : Nat) : Int) := by simp
                have hm2 : (i : Int).tmod (W : Int) = ((i % W : Nat) : Int) := by rw [Int.tmod_eq_emod_of_nonneg (by omega)]; simp
                have hd1 : (i : Int) / (W : Int) = ((i / W : Nat) : Int) := by simp
                have hd2 : (i : Int).tdiv (W : Int) = ((i / W : Nat) : Int) := by rw [Int.tdiv_eq_ediv_of_nonneg (by omega)]; simp
                obtain ⟨cc, hcc⟩ : ∃ c, i % W = c := ⟨_, rfl⟩
                obtain ⟨jj, hjj⟩ : ∃ c, i / W = c := ⟨_, rfl⟩
                rw [hcc] at hm1 hm2 hij hcW
                rw [hjj] at hd1 hd2 hij hj
                have hcov := cov_at (W := W) (i := cc) (j := jj) (sw := SW) (sh := SH) (x := x) (y := y) hcW
                rw [hij] at hcov
                have hW0 : ¬ (W : Int) = 0 := by omega
                have b1 : (0 : Int) ≤ (i : Int) := by omega
                have b2 : (i : Int) < (n : Int) := by omega
                clear hcc hjj
                by_cases hc : cov W SW SH x y i
                · obtain ⟨⟨u1, u2⟩, v1, v2⟩ := hcov.1 hc
                  obtain ⟨u, hu⟩ : ∃ u : Nat, (cc : Int) - x = u := ⟨((cc : Int) - x).toNat, by omega⟩
                  obtain ⟨v, hv⟩ : ∃ u : Nat, (jj : Int) - y = u := ⟨((jj : Int) - y).toNat, by omega⟩
                  have hvs : v * SW + u < s.length := by rw [HSL.out]; exact idx_lt2 (by omega) (by omega)
                  have hgv : putG cpy d s W SW SH x y i = s[v * SW + u] := by
                    rw [← hij, putG_in hcW hu hv (show u < SW by omega) (show v < SH by omega)]
                    exact getD_at hvs
                  rw [hgv] at hget
                  obtain ⟨m, hm⟩ : ∃ m, v * SW + u = m := ⟨_, rfl⟩
                  have em : (v : Int) * (SW : Int) + (u : Int) = (m : Int) := by rw [← hm]; simp
                  have hmul := Nat.mul_le_mul (show v ≤ 256 by omega) hSW.2
                  have hmv : 0 ≤ (v : Int) * (SW : Int) ∧ (v : Int) * (SW : Int) ≤ 65536 := by
                    have e : ((v * SW : Nat) : Int) = (v : Int) * (SW : Int) := by simp
                    omega
                  have hmn : (m : Int) < (ns : Int) := by rw [← hm]; rw [HNS.out] at hvs; omega
                  have hmq : m < s.length := by rw [← hm]; exact hvs
                  have HGT := Lib.hid (show M[i]'him = s[m]'hmq by subst hm; exact hget)
                  have su : IntKind.i64.wrap ((cc : Int) - x) = (u : Int) := by rw [hu]; exact IntWalk.i64_in _ (by omega)
                  have sv : IntKind.i64.wrap ((jj : Int) - y) = (v : Int) := by rw [hv]; exact IntWalk.i64_in _ (by omega)
                  have t1 : (u : Int) < (SW : Int) := by omega
                  have t2 : (v : Int) < (SH : Int) := by omega
                  clear hc hcov hu hv hget hgv hm hvs hij u1 u2 v1 v2
                  go_wp2_with fail
                  go_quiet (fail)
                  have hbq : Below w6.heap.size w6 (wr.drewN nq) := bdrewN hb nq
                  generalize wr.drewN nq = wq at *
                  clear su sv p0 p1 p2 q0 q1 q2 r0 r1 r2 hb
                  obtain ⟨⟨p0, _⟩, ⟨p1, _⟩, p2, _⟩ := (Blk.below hbq HK3.out).c3
                  obtain ⟨⟨q0, _⟩, ⟨q1, _⟩, q2, _⟩ := (Blk.below hbq HK4.out).c3
                  obtain ⟨⟨r0, _⟩, ⟨r1, _⟩, r2, _⟩ := (Blk.below hbq HK9.out).c3
                  have hl3' := (Blk.below hbq HK3.out).lt
                  have hl4' := (Blk.below hbq HK4.out).lt
                  have hl9' := (Blk.below hbq HK9.out).lt
                  obtain ⟨bd, od, hAd, hbd, c0, c3, c4, c5⟩ := (HRD6.out.below hbq) i hid
                  obtain ⟨bp, op, hAp, hbp, e0, e1, e2, e3⟩ := (HRP.out.below hbq) i him
                  obtain ⟨bs, os, hAs, hbs, f0, f1, f2, f3⟩ := (HRS6.out.below hbq) m hmq
                  rw [HGT.out] at e0 e1 e2 e3
                  obtain ⟨X, hX⟩ : ∃ X, s[m]'hmq = X := ⟨_, rfl⟩
                  rw [hX] at e0 e1 e2 e3 f0 f1 f2 f3
                  obtain ⟨Y, hY⟩ : ∃ X, d[i] = X := ⟨_, rfl⟩
                  rw [hY] at c0 c3 c4 c5
                  obtain ⟨X0, X1, X2, X3⟩ := X
                  obtain ⟨Y0, Y1, Y2, Y3⟩ := Y
                  simp only at e0 e1 e2 e3 f0 f1 f2 f3 c0 c3 c4 c5
                  subst hAd
                  subst hAp
                  subst hAs
                  have HBq := Lib.hid hbq
                  clear hX hY hbq
                  go_wp2_with fail
                  go_quiet (fail)
                  go_wp2_with fail
                  have HE := HBq.out
                  go_roundg (n - (i + 1))
                  case measure => omega
                  case rel => exact ⟨i + 1, by omega, by omega, by first | rfl | simp, bdrewN (HE.alloc HE.size _) _⟩
                · have hgv : putG cpy d s W SW SH x y i = d[i] := by
                    unfold putG
                    rw [if_neg hc]
                    exact getD_at hid
                  rw [hgv] at hget
                  have HGT := Lib.hid hget
                  obtain ⟨U, hu⟩ : ∃ u : Int, (cc : Int) - x = u := ⟨_, rfl⟩
                  obtain ⟨V, hv⟩ : ∃ u : Int, (jj : Int) - y = u := ⟨_, rfl⟩
                  have hcs : U < 0 ∨ (¬ U < 0 ∧ (SW : Int) ≤ U) ∨ (¬ U < 0 ∧ ¬ (SW : Int) ≤ U ∧ V < 0) ∨ (¬ U < 0 ∧ ¬ (SW : Int) ≤ U ∧ ¬ V < 0 ∧ (SH : Int) ≤ V) := by
                    rw [hu, hv] at hcov
                    by_cases q1 : U < 0
                    · exact .inl q1
                    · by_cases q2 : (SW : Int) ≤ U
                      · exact .inr (.inl ⟨q1, q2⟩)
                      · by_cases q3 : V < 0
                        · exact .inr (.inr (.inl ⟨q1, q2, q3⟩))
                        · refine .inr (.inr (.inr ⟨q1, q2, q3, ?_⟩))
                          by_cases q4 : (SH : Int) ≤ V
                          · exact q4
                          · exact absurd (hcov.2 (by omega)) hc
                  have su : IntKind.i64.wrap ((cc : Int) - x) = U := by rw [hu]; exact IntWalk.i64_in _ (by omega)
                  have sv : IntKind.i64.wrap ((jj : Int) - y) = V := by rw [hv]; exact IntWalk.i64_in _ (by omega)
                  clear hc hcov hu hv hget hgv hij
                  go_wp2_with fail
                  go_quiet (fail)
                  have hbq : Below w6.heap.size w6 (wr.drewN nq) := bdrewN hb nq
                  generalize wr.drewN nq = wq at *
                  clear su sv p0 p1 p2 q0 q1 q2 r0 r1 r2 hb
                  obtain ⟨⟨p0, _⟩, ⟨p1, _⟩, p2, _⟩ := (Blk.below hbq HK3.out).c3
                  obtain ⟨⟨q0, _⟩, ⟨q1, _⟩, q2, _⟩ := (Blk.below hbq HK4.out).c3
                  obtain ⟨⟨r0, _⟩, ⟨r1, _⟩, r2, _⟩ := (Blk.below hbq HK9.out).c3
                  have hl3' := (Blk.below hbq HK3.out).lt
                  have hl4' := (Blk.below hbq HK4.out).lt
                  have hl9' := (Blk.below hbq HK9.out).lt
                  obtain ⟨bd, od, hAd, hbd, c0, c3, c4, c5⟩ := (HRD6.out.below hbq) i hid
                  obtain ⟨bp, op, hAp, hbp, e0, e1, e2, e3⟩ := (HRP.out.below hbq) i him
                  rw [HGT.out] at e0 e1 e2 e3
                  obtain ⟨X, hX⟩ : ∃ X, d[i] = X := ⟨_, rfl⟩
                  rw [hX] at e0 e1 e2 e3 c0 c3 c4 c5
                  obtain ⟨X0, X1, X2, X3⟩ := X
                  simp only at e0 e1 e2 e3 c0 c3 c4 c5
                  subst hAd
                  subst hAp
                  have HBq := Lib.hid hbq
                  clear hX hbq
                  rcases hcs with z0 | ⟨z0, z1⟩ | ⟨z0, z1, z2⟩ | ⟨z0, z1, z2, z3⟩
                  all_goals
                    go_wp2_with fail
                    go_quiet (fail)
                    go_wp2_with fail
                    have HE := HBq.out
                    go_roundg (n - (i + 1))
                    case measure => omega
                    case rel => exact ⟨i + 1, by omega, by omega, by first | rfl | simp, bdrewN (HE.alloc HE.size _) _⟩
              · obtain rfl : n = i := by omega
                go_wp2_with fail
                have hBr := bon HB6.out HB6.out.size HBr.out
                (refine (lbex_true _).mono ?_; rintro e wx ⟨rfl, hb_wx⟩; have hBx : Below w.heap.size w wx := bon hBr (by first | exact (hBr).size | (simp; omega)) hb_wx; clear hb_wx; go_wp2_with fail; go_ret; exact ⟨rfl, hBx⟩)
          · have hcs : x < -30 ∨ (¬ x < -30 ∧ 30 < x) ∨ (¬ x < -30 ∧ ¬ 30 < x ∧ y < -30) ∨ (¬ x < -30 ∧ ¬ 30 < x ∧ ¬ y < -30 ∧ 30 < y) := by omega
            clear hxy kd ks okd oks
            rcases hcs with a0 | ⟨a0, a1⟩ | ⟨a0, a1, a2⟩ | ⟨a0, a1, a2, a3⟩
            all_goals
              go_enter Try.func8, Try.ntmps8; go_wp2_with fail; go_quiet (fail); go_wp2_with fail; refine (HS1.out _).mono ?_; rintro e w1 ⟨rfl, hb_w1⟩; have hB1 : Below w.heap.size w w1 := bon (by (with_reducible repeat (first | assumption | exact Below.refl _ _ | refine Below.setCell ?_ (by first | omega | (simp; done) | (simp; omega)) _ | refine Below.drew ?_ | refine bdrewN ?_ _ | refine Below.alloc ?_ (by first | omega | (simp; done) | (simp; omega)) _))) (by simp; try omega) hb_w1; have K3 : Blk w1 w.heap.size 27 #[.int .i64 dw, .int .i64 dh, .slice Ad n c1] := Blk.below hb_w1 (Blk.drewN (by (with_reducible repeat (first | assumption | (refine Blk.newAt ?_; first | rfl | (simp; done)) | refine Blk.alloc ?_ _ | refine Blk.drew ?_ | refine Blk.other ?_ (by simp) _)))); have K4 : Blk w1 (w.heap.size + 1) 27 #[.int .i64 sw, .int .i64 sh, .slice As ns c2] := Blk.below hb_w1 (Blk.drewN (by (with_reducible repeat (first | assumption | (refine Blk.newAt ?_; first | rfl | (simp; done)) | refine Blk.alloc ?_ _ | refine Blk.drew ?_ | refine Blk.other ?_ (by simp) _)))); clear hb_w1
              obtain ⟨⟨p0, _⟩, ⟨p1, _⟩, p2, _⟩ := K3.c3; obtain ⟨⟨q0, _⟩, ⟨q1, _⟩, q2, _⟩ := K4.c3; have HK3 := Lib.hid K3; have HK4 := Lib.hid K4; clear K3 K4; go_wp2_with fail; refine (HS2.out _).mono ?_; rintro e w2 ⟨rfl, hb_w2⟩; have hB_w2 : Below w.heap.size w w2 := bon hB1 (hB1).size hb_w2; have K3 := Blk.below hb_w2 HK3.out; have K4 := Blk.below hb_w2 HK4.out; clear hb_w2 HK3 HK4 p0 p1 p2 q0 q1 q2
              obtain ⟨⟨p0, _⟩, ⟨p1, _⟩, p2, _⟩ := K3.c3; obtain ⟨⟨q0, _⟩, ⟨q1, _⟩, q2, _⟩ := K4.c3; have HK3 := Lib.hid K3; have HK4 := Lib.hid K4; clear K3 K4; go_wp2_with fail; refine (HV1.out _ hB_w2).mono ?_; rintro e w3 ⟨rfl, hb_w3⟩; have hB_w3 : Below w.heap.size w w3 := bon hB_w2 (hB_w2).size hb_w3; have K3 := Blk.below hb_w3 HK3.out; have K4 := Blk.below hb_w3 HK4.out; clear hb_w3 HK3 HK4 p0 p1 p2 q0 q1 q2
              obtain ⟨⟨p0, _⟩, ⟨p1, _⟩, p2, _⟩ := K3.c3; obtain ⟨⟨q0, _⟩, ⟨q1, _⟩, q2, _⟩ := K4.c3; have HK3 := Lib.hid K3; have HK4 := Lib.hid K4; clear K3 K4; go_wp2_with fail; refine (HV2.out _ hB_w3).mono ?_; rintro e w4 ⟨rfl, hb_w4⟩; have hB_w4 : Below w.heap.size w w4 := bon hB_w3 (hB_w3).size hb_w4; have K3 := Blk.below hb_w4 HK3.out; have K4 := Blk.below hb_w4 HK4.out; clear hb_w4 HK3 HK4 p0 p1 p2 q0 q1 q2
              clear K3 K4; go_wp2_with fail; (refine (lbex_true _).mono ?_; rintro e wx ⟨rfl, hb_wx⟩; have hBx : Below w.heap.size w wx := bon hB_w4 (by first | exact (hB_w4).size | (simp; omega)) hb_wx; clear hb_wx; go_wp2_with fail; go_ret; exact ⟨rfl, hBx⟩)
    · rw [decide_eq_false s2] at hS2
      have HS2 := Lib.hid hS2
      clear hS2 hV1 hV2 okd oks
      go_enter Try.func8, Try.ntmps8; go_wp2_with fail; go_quiet (fail); go_wp2_with fail; refine (HS1.out _).mono ?_; rintro e w1 ⟨rfl, hb_w1⟩; have hB1 : Below w.heap.size w w1 := bon (by (with_reducible repeat (first | assumption | exact Below.refl _ _ | refine Below.setCell ?_ (by first | omega | (simp; done) | (simp; omega)) _ | refine Below.drew ?_ | refine bdrewN ?_ _ | refine Below.alloc ?_ (by first | omega | (simp; done) | (simp; omega)) _))) (by simp; try omega) hb_w1; have K3 : Blk w1 w.heap.size 27 #[.int .i64 dw, .int .i64 dh, .slice Ad n c1] := Blk.below hb_w1 (Blk.drewN (by (with_reducible repeat (first | assumption | (refine Blk.newAt ?_; first | rfl | (simp; done)) | refine Blk.alloc ?_ _ | refine Blk.drew ?_ | refine Blk.other ?_ (by simp) _)))); have K4 : Blk w1 (w.heap.size + 1) 27 #[.int .i64 sw, .int .i64 sh, .slice As ns c2] := Blk.below hb_w1 (Blk.drewN (by (with_reducible repeat (first | assumption | (refine Blk.newAt ?_; first | rfl | (simp; done)) | refine Blk.alloc ?_ _ | refine Blk.drew ?_ | refine Blk.other ?_ (by simp) _)))); clear hb_w1
      obtain ⟨⟨p0, _⟩, ⟨p1, _⟩, p2, _⟩ := K3.c3; obtain ⟨⟨q0, _⟩, ⟨q1, _⟩, q2, _⟩ := K4.c3; have HK3 := Lib.hid K3; have HK4 := Lib.hid K4; clear K3 K4; go_wp2_with fail; refine (HS2.out _).mono ?_; rintro e w2 ⟨rfl, hb_w2⟩; have hB_w2 : Below w.heap.size w w2 := bon hB1 (hB1).size hb_w2; have K3 := Blk.below hb_w2 HK3.out; have K4 := Blk.below hb_w2 HK4.out; clear hb_w2 HK3 HK4 p0 p1 p2 q0 q1 q2
      clear K3 K4; go_wp2_with fail; (refine (lbex_true _).mono ?_; rintro e wx ⟨rfl, hb_wx⟩; have hBx : Below w.heap.size w wx := bon hB_w2 (by first | exact (hB_w2).size | (simp; omega)) hb_wx; clear hb_wx; go_wp2_with fail; go_ret; exact ⟨rfl, hBx⟩)
  · rw [decide_eq_false s1] at hS1
    have HS1 := Lib.hid hS1
    clear hS1 hS2 hV1 hV2 okd oks
    go_enter Try.func8, Try.ntmps8; go_wp2_with fail; go_quiet (fail); go_wp2_with fail; refine (HS1.out _).mono ?_; rintro e w1 ⟨rfl, hb_w1⟩; have hB1 : Below w.heap.size w w1 := bon (by (with_reducible repeat (first | assumption | exact Below.refl _ _ | refine Below.setCell ?_ (by first | omega | (simp; done) | (simp; omega)) _ | refine Below.drew ?_ | refine bdrewN ?_ _ | refine Below.alloc ?_ (by first | omega | (simp; done) | (simp; omega)) _))) (by simp; try omega) hb_w1; have K3 : Blk w1 w.heap.size 27 #[.int .i64 dw, .int .i64 dh, .slice Ad n c1] := Blk.below hb_w1 (Blk.drewN (by (with_reducible repeat (first | assumption | (refine Blk.newAt ?_; first | rfl | (simp; done)) | refine Blk.alloc ?_ _ | refine Blk.drew ?_ | refine Blk.other ?_ (by simp) _)))); have K4 : Blk w1 (w.heap.size + 1) 27 #[.int .i64 sw, .int .i64 sh, .slice As ns c2] := Blk.below hb_w1 (Blk.drewN (by (with_reducible repeat (first | assumption | (refine Blk.newAt ?_; first | rfl | (simp; done)) | refine Blk.alloc ?_ _ | refine Blk.drew ?_ | refine Blk.other ?_ (by simp) _)))); clear hb_w1
    clear K3 K4; go_wp2_with fail; (refine (lbex_true _).mono ?_; rintro e wx ⟨rfl, hb_wx⟩; have hBx : Below w.heap.size w wx := bon hB1 (by first | exact (hB1).size | (simp; omega)) hb_wx; clear hb_wx; go_wp2_with fail; go_ret; exact ⟨rfl, hBx⟩)
end Go.Proofs.Ytgikmcgoaihggaa
