/- BufferCrop: the walk. -/
import Derived.Test.YtgikmcgoaihggaaBEx
import Derived.Test.YtgikmcgoaihggaaBEq
import Derived.Test.YtgikmcgoaihggaaCropB
import Derived.Test.YtgikmcgoaihggaaCombB
import Derived.Test.YtgikmcgoaihggaaOpenB
set_option linter.unusedVariables false
set_option linter.unusedSimpArgs false
namespace Go.Proofs.Ytgikmcgoaihggaa
open Go.RowKit Go.Sort
attribute [local go_sem ↓] Go.wp_at_zero Go.wp_at_succ

theorem bufE_at {w : World} {B1 B2 : Int} {ps : List Px} {E : Int} {e : Ending} {w' : World} (h : BufE w (B1, B2, ps) E e w') : ∃ A c, e = .returned (.tuple #[bufv B1 B2 (.slice A ps.length c), .int .i64 E]) ∧ Below w.heap.size w w' ∧ Rdp w' A ps ∧ ps.length ≤ c ∧ c ≤ 9223372036854775807 := by
  obtain ⟨v, he, hb, ho⟩ := h
  obtain ⟨A, c, rfl, h1, h2, hr⟩ := ho.form
  exact ⟨A, c, he, hb, hr, h1, h2⟩
set_option maxRecDepth 100000 in
set_option maxHeartbeats 4000000 in
theorem buffercrop_any (bw bh : Int) (A : Option Addr) (ps : List Px) (c : Nat) (x0 y0 x1 y1 : Int) (w : World) (hl : ps.length ≤ c ∧ c ≤ 9223372036854775807) (hr : Rdp w A ps) (ok : PxsOk ps) :
    Calls Try.prog 7 #[bufv bw bh (.slice A ps.length c), .agg #[.int .i64 x0, .int .i64 y0, .int .i64 x1, .int .i64 y1]] w fun e w' => e = .returned (.bool true) ∧ Below w.heap.size w w' := by
  have hB := fun W (h : Below w.heap.size w W) => bcrop_any bw bh A ps c ⟨x0, y0, x1, y1⟩ W (hr.below h) hl
  have hV := fun W (h : Below w.heap.size w W) => vcrop_any bw bh A ps c ⟨x0, y0, x1, y1⟩ W (hr.below h) hl
  have hS := fun W => lbsmall_any bw bh A ps.length c W (by omega)
  have hok : cropE bw bh ps ⟨x0, y0, x1, y1⟩ = 0 → ∃ C1 C2 : Int, ∃ cs : List Px, cropB bw bh ps ⟨x0, y0, x1, y1⟩ = (C1, C2, cs) ∧ PxsOk cs ∧ putE bw bh ps C1 C2 cs = 0 ∧ putB cpy bw bh ps C1 C2 cs x0 y0 = (bw, bh, ps) := by
    intro h
    obtain ⟨W, H, X0, Y0, X1, Y1, rfl, rfl, hrc, hW, hH, hlen, hx, hy, kb, e⟩ := crop_nat h
    simp only [Rc.mk.injEq] at hrc
    obtain ⟨rfl, rfl, rfl, rfl⟩ := hrc
    refine ⟨_, _, _, e, fun p hp => ok p (cropUp_mem hp), ?_⟩
    have e1 : (X1 : Int) - X0 = ((X1 - X0 : Nat) : Int) := by omega
    have e2 : (Y1 : Int) - Y0 = ((Y1 - Y0 : Nat) : Int) := by omega
    rw [e1, e2]
    have kc := crop_valid (n := X1 - X0) (k := Y1 - Y0) (x0 := X0) (y0 := Y0) kb hlen hW.2 hH.2 (by omega) (by omega) (by omega) (by omega)
    obtain ⟨q1, q2⟩ := put_ok (f := cpy) X0 Y0 ⟨kb, kc⟩
    rw [q1, q2]
    refine ⟨rfl, ?_⟩
    rw [Int.toNat_natCast, hlen, paste_part hlen (by omega) (by omega) (by omega)]
  have hP := fun (C1 C2 : Int) (cs : List Px) (A2 : Option Addr) (k2 : Nat) W (h : Below w.heap.size w W) (h2 : Rdp W A2 cs) (h3 : cs.length ≤ k2 ∧ k2 ≤ 9223372036854775807) (h4 : PxsOk cs) => bpaste_any bw bh A ps c C1 C2 A2 cs k2 x0 y0 W (hr.below h) h2 (by omega) h3 ok h4
  by_cases hsm : ps.length ≤ 400
  · rw [decide_eq_true hsm] at hS
    by_cases hE : cropE bw bh ps ⟨x0, y0, x1, y1⟩ = 0
    · obtain ⟨C1, C2, cs, eB, okc, eP, eQ⟩ := hok hE
      rw [hE, eB] at hB hV
      have hP' := fun A2 k2 W h h2 h3 => hP C1 C2 cs A2 k2 W h h2 h3 okc
      rw [eP, eQ] at hP'
      have HP := Lib.hid hP'
      have HN := Lib.hid (fun (W0 : World) (h : Below w.heap.size w W0) => hr.below h)
      have hnn : ps.length ≤ 9223372036854775807 := by omega
      have HB := Lib.hid hB
      have HV := Lib.hid hV
      have HS := Lib.hid hS
      obtain ⟨n, hn⟩ : ∃ n, ps.length = n := ⟨_, rfl⟩
      rw [hn] at HB HV HS HP hl hnn ⊢
      have HNN := Lib.hid hn
      obtain ⟨hl1, hl2⟩ := hl
      clear hB hV hS hok hP hP' eB eP eQ hr ok hE hn
      go_enter Try.func7, Try.ntmps7
      go_wp2_with fail
      refine (HS.out _).mono ?_; rintro e w1 ⟨rfl, hb_w1⟩
      have hB1 : Below w.heap.size w w1 := bon (by (with_reducible repeat (first | assumption | exact Below.refl _ _ | refine Below.setCell ?_ (by first | omega | (simp; done) | (simp; omega)) _ | refine Below.drew ?_ | refine bdrewN ?_ _ | refine Below.alloc ?_ (by first | omega | (simp; done) | (simp; omega)) _))) (by simp; try omega) hb_w1
      have K2 : Blk w1 (w.heap.size) 27 #[.int .i64 bw, .int .i64 bh, .slice A n c] := Blk.below hb_w1 (by (with_reducible repeat (first | assumption | (refine Blk.newAt ?_; first | rfl | (simp; done)) | refine Blk.alloc ?_ _ | refine Blk.drew ?_ | refine Blk.other ?_ (by simp) _)))
      have K3 : Blk w1 (w.heap.size + 1) 47 #[.int .i64 x0, .int .i64 y0, .int .i64 x1, .int .i64 y1] := Blk.below hb_w1 (by (with_reducible repeat (first | assumption | (refine Blk.newAt ?_; first | rfl | (simp; done)) | refine Blk.alloc ?_ _ | refine Blk.drew ?_ | refine Blk.other ?_ (by simp) _)))
      obtain ⟨⟨c0, _⟩, ⟨c1, _⟩, c2, _⟩ := K2.c3
      obtain ⟨⟨d0, _⟩, ⟨d1, _⟩, ⟨d2, _⟩, d3, _⟩ := K3.c4
      have hz1 := K3.lt
      clear hb_w1
      go_wp2_with fail
      refine (HB.out _ hB1).mono ?_; intro e w2 h2; obtain ⟨A2, k2, rfl, hb2, hr2, hk2, hm2⟩ := bufE_at h2
      have hB2 : Below w.heap.size w w2 := bon hB1 hB1.size hb2
      replace K2 := Blk.below hb2 K2
      replace K3 := Blk.below hb2 K3
      obtain ⟨⟨c0, _⟩, ⟨c1, _⟩, c2, _⟩ := K2.c3
      obtain ⟨⟨d0, _⟩, ⟨d1, _⟩, ⟨d2, _⟩, d3, _⟩ := K3.c4
      have HR2 := Lib.hid hr2
      have HK2 := Lib.hid K2
      have HK3 := Lib.hid K3
      have hz2 := K2.lt
      have hz3 := K3.lt
      clear h2 hb2 hr2 K2 K3
      go_wp2_with fail
      have hW2 : Below w2.heap.size w2 (w2.alloc (.cells #[.int .i64 C1, .int .i64 C2, .slice A2 cs.length k2] 27)) := (Below.refl _ _).alloc (Nat.le_refl _) _
      have K5 : Blk (w2.alloc (.cells #[.int .i64 C1, .int .i64 C2, .slice A2 cs.length k2] 27)) w2.heap.size 27 #[.int .i64 C1, .int .i64 C2, .slice A2 cs.length k2] := Blk.new _ _ _
      refine (HV.out _ (bon hB2 hB2.size hW2)).mono ?_; intro e w3 h3; obtain ⟨A3, k3, rfl, hb3, hr3, hk3, hm3⟩ := bufE_at h3
      have hB3 : Below w.heap.size w w3 := bon (bon hB2 hB2.size hW2) (by simp; omega) hb3
      have hB23 : Below w2.heap.size w2 w3 := bon hW2 hW2.size hb3
      replace K5 := Blk.below hb3 K5
      have K2 := Blk.below hB23 HK2.out
      have K3 := Blk.below hB23 HK3.out
      obtain ⟨⟨g0, _⟩, ⟨g1, _⟩, g2, _⟩ := K5.c3
      have hr2' := HR2.out.below hB23
      have HR2' := Lib.hid hr2'
      have HR3 := Lib.hid hr3
      have HK2 := Lib.hid K2
      have HK3 := Lib.hid K3
      have HK5 := Lib.hid K5
      have hz5 := K5.lt
      have hcl : cs.length ≤ 9223372036854775807 := by omega
      clear hb3 h3 hr3 hr2' K5 K2 K3 hW2 c0 c1 c2 d0 d1 d2 d3 hB23
      go_wp2_with fail
      have hW3 : Below w3.heap.size w3 (w3.alloc (.cells #[.int .i64 C1, .int .i64 C2, .slice A3 cs.length k3] 27)) := (Below.refl _ _).alloc (Nat.le_refl _) _
      refine (vequal_any C1 C2 A2 cs k2 C1 C2 A3 cs k3 _ (HR2'.out.below hW3) (HR3.out.below hW3) hcl hcl).mono ?_; rintro e w4 ⟨rfl, hb4⟩
      have hB4 : Below w.heap.size w w4 := bon (bon hB3 hB3.size hW3) (by simp; omega) hb4
      have hB34 : Below w3.heap.size w3 w4 := bon hW3 hW3.size hb4
      rw [eqB_self]
      have K2 := Blk.below hB34 HK2.out
      have K3 := Blk.below hB34 HK3.out
      have K5 := Blk.below hB34 HK5.out
      obtain ⟨⟨c0, _⟩, ⟨c1, _⟩, c2, _⟩ := K2.c3
      obtain ⟨⟨d0, _⟩, ⟨d1, _⟩, ⟨d2, _⟩, d3, _⟩ := K3.c4
      obtain ⟨⟨g0, _⟩, ⟨g1, _⟩, g2, _⟩ := K5.c3
      have HR4 := Lib.hid (HR2'.out.below hB34)
      have HK2 := Lib.hid K2
      have hz6 := K2.lt
      clear hb4 hW3 hB34 K2 K3 K5
      go_wp2_with fail
      refine (HP.out A2 k2 w4 hB4 HR4.out ⟨hk2, hm2⟩).mono ?_; intro e w5 h5; obtain ⟨A5, k5, rfl, hb5, hr5, hk5, hm5⟩ := bufE_at h5
      have hB5 : Below w.heap.size w w5 := bon hB4 hB4.size hb5
      have K2 := Blk.below hb5 HK2.out
      obtain ⟨⟨c0, _⟩, ⟨c1, _⟩, c2, _⟩ := K2.c3
      have HR5 := Lib.hid hr5
      have hz7 := K2.lt
      rw [HNN.out] at hk5 ⊢
      clear hb5 h5 hr5 K2 d0 d1 d2 d3 g0 g1 g2
      go_wp2_with fail
      have hW5 : Below w5.heap.size w5 (w5.alloc (.cells #[.int .i64 bw, .int .i64 bh, .slice A5 n k5] 27)) := (Below.refl _ _).alloc (Nat.le_refl _) _
      have hEq := vequal_any bw bh A5 ps k5 bw bh A ps c (w5.alloc (.cells #[.int .i64 bw, .int .i64 bh, .slice A5 n k5] 27)) (HR5.out.below hW5) (HN.out _ (bon hB5 hB5.size hW5)) (by rw [HNN.out]; exact hnn) (by rw [HNN.out]; exact hnn)
      rw [eqB_self, HNN.out] at hEq
      refine hEq.mono ?_; rintro e w6 ⟨rfl, hb6⟩
      have hB6 : Below w.heap.size w w6 := bon (bon hB5 hB5.size hW5) (by simp; omega) hb6
      clear hb6 hW5 hEq
      go_wp2_with fail
      (refine (lbex_true _).mono ?_; rintro e wx ⟨rfl, hb_wx⟩; have hBx : Below w.heap.size w wx := bon hB6 (by first | exact (hB6).size | (simp; omega)) hb_wx; clear hb_wx; go_wp2_with fail; go_ret; exact ⟨rfl, hBx⟩)
    · obtain ⟨Bf, hBf⟩ : ∃ B, cropB bw bh ps ⟨x0, y0, x1, y1⟩ = B := ⟨_, rfl⟩
      obtain ⟨E, hEE⟩ : ∃ E, cropE bw bh ps ⟨x0, y0, x1, y1⟩ = E := ⟨_, rfl⟩
      rw [hBf, hEE] at hB hV
      rw [hEE] at hE
      obtain ⟨C1, C2, cs⟩ := Bf
      have f1 : (E == 0) = false := by simpa using hE
      have f2 : (E != 0) = true := by simpa using hE
      have HB := Lib.hid hB
      have HV := Lib.hid hV
      have HS := Lib.hid hS
      generalize ps.length = n at *
      obtain ⟨hl1, hl2⟩ := hl
      clear hB hV hS hok hP hBf hEE hr ok hE
      go_enter Try.func7, Try.ntmps7
      go_wp2_with fail
      refine (HS.out _).mono ?_; rintro e w1 ⟨rfl, hb_w1⟩
      have hB1 : Below w.heap.size w w1 := bon (by (with_reducible repeat (first | assumption | exact Below.refl _ _ | refine Below.setCell ?_ (by first | omega | (simp; done) | (simp; omega)) _ | refine Below.drew ?_ | refine bdrewN ?_ _ | refine Below.alloc ?_ (by first | omega | (simp; done) | (simp; omega)) _))) (by simp; try omega) hb_w1
      have K2 : Blk w1 (w.heap.size) 27 #[.int .i64 bw, .int .i64 bh, .slice A n c] := Blk.below hb_w1 (by (with_reducible repeat (first | assumption | (refine Blk.newAt ?_; first | rfl | (simp; done)) | refine Blk.alloc ?_ _ | refine Blk.drew ?_ | refine Blk.other ?_ (by simp) _)))
      have K3 : Blk w1 (w.heap.size + 1) 47 #[.int .i64 x0, .int .i64 y0, .int .i64 x1, .int .i64 y1] := Blk.below hb_w1 (by (with_reducible repeat (first | assumption | (refine Blk.newAt ?_; first | rfl | (simp; done)) | refine Blk.alloc ?_ _ | refine Blk.drew ?_ | refine Blk.other ?_ (by simp) _)))
      obtain ⟨⟨c0, _⟩, ⟨c1, _⟩, c2, _⟩ := K2.c3
      obtain ⟨⟨d0, _⟩, ⟨d1, _⟩, ⟨d2, _⟩, d3, _⟩ := K3.c4
      have hz1 := K3.lt
      clear hb_w1
      go_wp2_with fail
      refine (HB.out _ hB1).mono ?_; intro e w2 h2; obtain ⟨A2, k2, rfl, hb2, hr2, hk2, hm2⟩ := bufE_at h2
      have hB2 : Below w.heap.size w w2 := bon hB1 hB1.size hb2
      replace K2 := Blk.below hb2 K2
      replace K3 := Blk.below hb2 K3
      obtain ⟨⟨c0, _⟩, ⟨c1, _⟩, c2, _⟩ := K2.c3
      obtain ⟨⟨d0, _⟩, ⟨d1, _⟩, ⟨d2, _⟩, d3, _⟩ := K3.c4
      have HR2 := Lib.hid hr2
      have HK2 := Lib.hid K2
      have HK3 := Lib.hid K3
      have hz2 := K2.lt
      have hz3 := K3.lt
      clear h2 hb2 hr2 K2 K3
      go_wp2_with fail
      have hW2 : Below w2.heap.size w2 (w2.alloc (.cells #[.int .i64 C1, .int .i64 C2, .slice A2 cs.length k2] 27)) := (Below.refl _ _).alloc (Nat.le_refl _) _
      have K5 : Blk (w2.alloc (.cells #[.int .i64 C1, .int .i64 C2, .slice A2 cs.length k2] 27)) w2.heap.size 27 #[.int .i64 C1, .int .i64 C2, .slice A2 cs.length k2] := Blk.new _ _ _
      refine (HV.out _ (bon hB2 hB2.size hW2)).mono ?_; intro e w3 h3; obtain ⟨A3, k3, rfl, hb3, hr3, hk3, hm3⟩ := bufE_at h3
      have hB3 : Below w.heap.size w w3 := bon (bon hB2 hB2.size hW2) (by simp; omega) hb3
      have hB23 : Below w2.heap.size w2 w3 := bon hW2 hW2.size hb3
      replace K5 := Blk.below hb3 K5
      have K2 := Blk.below hB23 HK2.out
      have K3 := Blk.below hB23 HK3.out
      obtain ⟨⟨g0, _⟩, ⟨g1, _⟩, g2, _⟩ := K5.c3
      have hr2' := HR2.out.below hB23
      have HR2' := Lib.hid hr2'
      have HR3 := Lib.hid hr3
      have HK2 := Lib.hid K2
      have HK3 := Lib.hid K3
      have HK5 := Lib.hid K5
      have hz5 := K5.lt
      have hcl : cs.length ≤ 9223372036854775807 := by omega
      clear hb3 h3 hr3 hr2' K5 K2 K3 hW2 c0 c1 c2 d0 d1 d2 d3 hB23
      go_wp2_with fail
      have hW3 : Below w3.heap.size w3 (w3.alloc (.cells #[.int .i64 C1, .int .i64 C2, .slice A3 cs.length k3] 27)) := (Below.refl _ _).alloc (Nat.le_refl _) _
      refine (vequal_any C1 C2 A2 cs k2 C1 C2 A3 cs k3 _ (HR2'.out.below hW3) (HR3.out.below hW3) hcl hcl).mono ?_; rintro e w4 ⟨rfl, hb4⟩
      have hB4 : Below w.heap.size w w4 := bon (bon hB3 hB3.size hW3) (by simp; omega) hb4
      have hB34 : Below w3.heap.size w3 w4 := bon hW3 hW3.size hb4
      rw [eqB_self]
      clear hb4 hW3 hB34
      go_wp2_with fail
      (refine (lbex_true _).mono ?_; rintro e wx ⟨rfl, hb_wx⟩; have hBx : Below w.heap.size w wx := bon hB4 (by first | exact (hB4).size | (simp; omega)) hb_wx; clear hb_wx; go_wp2_with fail; go_ret; exact ⟨rfl, hBx⟩)
  · rw [decide_eq_false hsm] at hS
    have HS := Lib.hid hS
    generalize ps.length = n at *
    clear hB hV hS hok hP hr ok hl hsm
    go_enter Try.func7, Try.ntmps7
    go_wp2_with fail
    refine (HS.out _).mono ?_; rintro e w1 ⟨rfl, hb_w1⟩
    have hB1 : Below w.heap.size w w1 := bon (by (with_reducible repeat (first | assumption | exact Below.refl _ _ | refine Below.setCell ?_ (by first | omega | (simp; done) | (simp; omega)) _ | refine Below.drew ?_ | refine bdrewN ?_ _ | refine Below.alloc ?_ (by first | omega | (simp; done) | (simp; omega)) _))) (by simp; try omega) hb_w1
    clear hb_w1
    go_wp2_with fail
    (refine (lbex_true _).mono ?_; rintro e wx ⟨rfl, hb_wx⟩; have hBx : Below w.heap.size w wx := bon hB1 (by first | exact (hB1).size | (simp; omega)) hb_wx; clear hb_wx; go_wp2_with fail; go_ret; exact ⟨rfl, hBx⟩)
end Go.Proofs.Ytgikmcgoaihggaa
