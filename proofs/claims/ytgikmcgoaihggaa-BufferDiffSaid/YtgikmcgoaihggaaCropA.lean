/- The program's Crop, where all is well. -/
import Derived.Test.YtgikmcgoaihggaaCropI
import Derived.Deep.RegionLaw
import Derived.IntWalk
set_option linter.unusedVariables false
set_option linter.unusedSimpArgs false
namespace Go.Proofs.Ytgikmcgoaihggaa
open Go.RowKit Go.Sort
attribute [local go_sem ↓] Go.wp_at_zero Go.wp_at_succ
attribute [local go_sem] calm calmAt calmUpon

set_option maxRecDepth 100000 in
set_option maxHeartbeats 4000000 in
theorem bcrop_run (W H x0 y0 x1 y1 : Nat) (b off : Nat) (ps : List Px) (c : Nat) (w : World) (hr : Rdp w (some ⟨b, off, none⟩) ps) (hlen : ps.length = H * W) (hc : ps.length ≤ c ∧ c ≤ 9223372036854775807) (hW : 1 ≤ W ∧ W ≤ 256) (hH : 1 ≤ H ∧ H ≤ 256)
    (hx : x0 < x1 ∧ x1 ≤ W) (hy : y0 < y1 ∧ y1 ≤ H) (kb : bufB W H ps = true) (hbw : b < w.heap.size) :
    Calls Try.prog 30 #[bufv W H (.slice (some ⟨b, off, none⟩) ps.length c), rcv ⟨x0, y0, x1, y1⟩] w (BufE w ((x1 : Int) - x0, (y1 : Int) - y0, cropUp ps W x0 (x1 - x0) y0 (y1 - y0)) 0) := by
  have hV := fun W0 (hb : Below w.heap.size w W0) => bvalid_any W H (some ⟨b, off, none⟩) ps c W0 (hr.below hb) (by omega)
  rw [kb] at hV
  have k3 : emB ⟨x0, y0, x1, y1⟩ = false := by rw [emB_iff]; simp only [crd]; omega
  have hfr : emB ⟨0, 0, W, H⟩ = false := by rw [emB_iff]; simp only [crd]; omega
  have hC1 := fun W0 => rempty_any ⟨x0, y0, x1, y1⟩ W0
  rw [k3] at hC1
  have hW2 := fun W0 => rwithin_any ⟨x0, y0, x1, y1⟩ ⟨0, 0, W, H⟩ W0 k3 hfr
  rw [decide_eq_true ((inter_frame k3 (by omega) (by omega)).2 ⟨by simp only; omega, by simp only; omega, by simp only; omega, by simp only; omega⟩)] at hW2
  have HV := Lib.hid hV
  have HC1 := Lib.hid hC1
  have HW := Lib.hid hW2
  have HR := Lib.hid hr
  have hHW := Nat.mul_le_mul hH.2 hW.2
  obtain ⟨n, hn⟩ : ∃ n, ps.length = n := ⟨_, rfl⟩
  rw [hn] at HV hlen hc ⊢
  have HN := Lib.hid hn
  have HL := Lib.hid hlen
  have HB := Lib.hid kb
  obtain ⟨hc1, hc2⟩ := hc
  clear hV hC1 hW2 hr kb hlen hn k3 hfr
  go_enter Try.func30, Try.ntmps30
  go_wp2_with fail
  refine (HV.out _ (by (with_reducible repeat (first | assumption | exact Below.refl _ _ | refine Below.setCell ?_ (by first | omega | (simp; done) | (simp; omega)) _ | refine Below.drew ?_ | refine bdrewN ?_ _ | refine Below.alloc ?_ (by first | omega | (simp; done) | (simp; omega)) _)))).mono ?_; rintro e w2 ⟨rfl, hb_w2⟩
  have hB2 : Below w.heap.size w w2 := bon (by (with_reducible repeat (first | assumption | exact Below.refl _ _ | refine Below.setCell ?_ (by first | omega | (simp; done) | (simp; omega)) _ | refine Below.drew ?_ | refine bdrewN ?_ _ | refine Below.alloc ?_ (by first | omega | (simp; done) | (simp; omega)) _))) (by simp; try omega) hb_w2
  have K2 : Blk w2 (w.heap.size) 27 #[.int .i64 W, .int .i64 H, .slice (some ⟨b, off, none⟩) n c] := Blk.below hb_w2 (by (with_reducible repeat (first | assumption | (refine Blk.newAt ?_; first | rfl | (simp; done)) | refine Blk.alloc ?_ _ | refine Blk.drew ?_ | refine Blk.other ?_ (by simp) _)))
  have K3 : Blk w2 (w.heap.size + 1) 47 #[.int .i64 x0, .int .i64 y0, .int .i64 x1, .int .i64 y1] := Blk.below hb_w2 (by (with_reducible repeat (first | assumption | (refine Blk.newAt ?_; first | rfl | (simp; done)) | refine Blk.alloc ?_ _ | refine Blk.drew ?_ | refine Blk.other ?_ (by simp) _)))
  have K4 : Blk w2 (w.heap.size + 1 + 1) 27 #[.int .i64 0, .int .i64 0, .slice none 0 0] := Blk.below hb_w2 (by (with_reducible repeat (first | assumption | (refine Blk.newAt ?_; first | rfl | (simp; done)) | refine Blk.alloc ?_ _ | refine Blk.drew ?_ | refine Blk.other ?_ (by simp) _)))
  have HK2 := Lib.hid K2
  have HK3 := Lib.hid K3
  have HK4 := Lib.hid K4
  clear hb_w2
  obtain ⟨⟨c0, _⟩, ⟨c1, _⟩, c2, _⟩ := K2.c3
  obtain ⟨⟨d0, _⟩, ⟨d1, _⟩, ⟨d2, _⟩, d3, _⟩ := K3.c4
  have g0 := cell_regrown c0
  have g1 := cell_regrown c1
  have g2 := cell_regrown c2
  have g3 := cell_regrown d0
  have g4 := cell_regrown d1
  have g5 := cell_regrown d2
  have g6 := cell_regrown d3
  clear K2 K3 K4
  go_upto_region 3 with fail
  (refine wp_region_calm 8 [] [false, false, false, false, false, false, false, false] (by kernel_rfl) (by kernel_rfl) (by decide) (freshOk_of (by kernel_rfl) (by kernel_rfl) (fun x hx => by cases hx)) ?_; simp only [List.take_succ_cons, List.take_zero, List.drop_succ_cons, List.drop_zero, List.zip_cons_cons, List.zip_nil_left, List.zip_nil_right]; (repeat (first | refine wpCalm_pass ?_ | (refine wpCalm_step (fun K hK => ?_); go_simp; first | (refine hK _ ?_; clear hK K) | (apply Exists.intro; refine ⟨fun _ => ?_, hK _ ?_⟩; (first | exact HC1.out _ | exact bframe_any _ _ _ rfl _ | exact HW.out _); clear hK K)))); (first | refine wpCalm_nil ?_ | skip))
  intro F wz hF
  obtain rfl := hF.nil
  have hbz := hF.below
  have hB3 : Below w.heap.size w wz := bon hB2 hB2.size hbz
  have K2 := Blk.below hbz HK2.out
  have K3 := Blk.below hbz HK3.out
  have K4 := Blk.below hbz HK4.out
  clear g0 g1 g2 g3 g4 g5 g6 hF c0 c1 c2 d0 d1 d2 d3 HC1 HW HV
  obtain ⟨⟨d0, _⟩, ⟨d1, _⟩, ⟨d2, _⟩, d3, _⟩ := K3.c4
  have HB3 := Lib.hid hB3
  have hz2 := K2.lt
  have hz3 := K3.lt
  have hz4 := K4.lt
  have HK2 := Lib.hid K2
  have HK3 := Lib.hid K3
  have HK4 := Lib.hid K4
  clear hB2 hbz hB3 K2 K3 K4
  unfold putL
  go_wp2_with fail
  generalize hWd : World.alloc _ _ = w0
  have hI0 : CropI w W H (.slice (some ⟨b, off, none⟩) n c) x0 y0 x1 y1 wz.heap.size (cropUp ps W x0 (x1 - x0) y0 0) w0 := by
    subst hWd
    refine ⟨HB3.out.alloc (by omega) _, by simp, HK2.out.alloc _, HK3.out.alloc _, HK4.out.alloc _, .slice none 0 0, Blk.new _ _ _, World.ownsRow_nil _ _ _ _⟩
  have HI := Lib.hid hI0
  obtain ⟨tb, htb⟩ : ∃ tb, wz.heap.size = tb := ⟨_, rfl⟩
  rw [htb] at HI hz2 hz3 hz4 ⊢
  clear hWd hI0 HK2 HK3 HK4 HB3 d0 d1 d2 d3 htb
  go_loopg [7] (y1 - y0) (fun k s7 wr => ∃ q : Nat, k = y1 - (y0 + q) ∧ y0 + q ≤ y1 ∧ s7 = .int .i64 ((y0 + q : Nat) : Int) ∧ CropI w W H (.slice (some ⟨b, off, none⟩) n c) x0 y0 x1 y1 tb (cropUp ps W x0 (x1 - x0) y0 q) wr)
  case atStart => exact ⟨0, by omega, by omega, by first | rfl | simp, HI.out⟩
  case round =>
    obtain ⟨q, hk, hq, rfl, hI⟩ := hrel
    have HIj := Lib.hid hI
    obtain ⟨hB, hzr, K0, K1, K2, ov, K3, ho⟩ := hI
    obtain ⟨j, hj⟩ : ∃ j, y0 + q = j := ⟨_, rfl⟩
    rw [hj] at hk hq ⊢
    have hj0 : y0 ≤ j := by omega
    by_cases hlt : j < y1
    · have hul := cropUp_length (y0 := y0) (n := x1 - x0) (x0 := x0) (by rw [HN.out]; exact HL.out) (by omega) q (by omega)
      have hus := cropUp_succ ps W x0 (x1 - x0) y0 q
      rw [hj] at hus
      have hin := crop_in (W := W) (H := H) (y := j) (x0 := x0) (n := x1 - x0) (by omega) (by omega)
      have hpart := Rdp.part (i := j * W + x0) (n := x1 - x0) HR.out (by rw [HN.out, HL.out]; exact hin)
      have hpl := rowP_length (ps := ps) (i := j * W + x0) (n := x1 - x0) (by rw [HN.out, HL.out]; exact hin)
      have hbnd := Nat.mul_le_mul (show q ≤ 256 by omega) (show x1 - x0 ≤ 256 by omega)
      have hrow := fun W0 => brow_any W j x0 x1 H b off n c W0 hW.2 (by omega) hx.1 (by rw [HL.out]; omega) ⟨hc1, hc2⟩
      obtain ⟨oa, oc, hoe, _, _⟩ := slice_lenB ho
      subst hoe
      obtain ⟨l, hll⟩ : ∃ l, (cropUp ps W x0 (x1 - x0) y0 q).length = l := ⟨_, rfl⟩
      obtain ⟨d, hd⟩ : ∃ d, x1 - x0 = d := ⟨_, rfl⟩
      rw [hll] at K3
      have ho' : wr.ownsRow (tb + 1) 43 4 (.slice oa l oc) l (pxCells (cropUp ps W x0 (x1 - x0) y0 q)) := by unfold OwnP at ho; rw [hll] at ho; exact ho
      rw [hd] at hul hus hpart hpl hbnd hrow ho' ⊢
      have hA1 : l + d ≤ 1000000 := by rw [← hll, hd, hul]; omega
      have hd0 : 0 < d := by omega
      have HUS := Lib.hid hus
      have HROW := Lib.hid hrow
      have HO := Lib.hid ho'
      have HLL := Lib.hid hll
      have HPL := Lib.hid hpl
      have HP := Lib.hid hpart
      have HD := Lib.hid hd
      have HBr := Lib.hid hB
      have HK3 := Lib.hid K3
      obtain ⟨⟨c0, _⟩, ⟨c1, _⟩, c2, _⟩ := K0.c3
      obtain ⟨⟨d0, _⟩, ⟨d1, _⟩, ⟨d2, _⟩, d3, _⟩ := K1.c4
      obtain ⟨⟨p0, q0⟩, ⟨p1, q1⟩, p2, q2⟩ := K3.c3
      have hz7 : tb + 1 ≤ wr.heap.size := hzr
      clear hul hus hpart hpl hbnd hrow ho' hll hd hin ho K0 K1 K2 K3 hB HI
      go_wp2_with fail
      go_region_law (first
        | (go_simp; go_at_call 57; refine (HROW.out _).mono ?_; rintro e w6 ⟨rfl, hb6⟩; have hb6' : Below wr.heap.size wr w6 := bon (by (with_reducible repeat (first | assumption | exact Below.refl _ _ | refine Below.setCell ?_ (by first | omega | (simp; done) | (simp; omega)) _ | refine Below.drew ?_ | refine bdrewN ?_ _ | refine Below.alloc ?_ (by first | omega | (simp; done) | (simp; omega)) _))) (by simp) hb6; have hz6 := hb6'.size; have hp6 : tb < w6.heap.size := Nat.lt_of_lt_of_le hzr hz6; obtain ⟨⟨p0, q0⟩, ⟨p1, q1⟩, p2, q2⟩ := (Blk.below hb6' HK3.out).c3; have HB6 := Lib.hid hb6'; clear hb6 hb6')
        | (refine step_app _ [43] rfl el_px (.tmp 44) (.tmp 51) rfl (tb + 1) (.slice oa l oc) l (pxCells (cropUp ps W x0 d y0 q)) rfl ((FrT.ofBelow HB6.out 0 []).row HO.out (.inl rfl)) (.slice (some ⟨b, off + (j * W + x0) * 4, none⟩) d d) d (pxCells (rowP ps (j * W + x0) d)) rfl (by have := Rdp.src (c := d) (HP.out.below (bon HBr.out HBr.out.size HB6.out)) (fun _ h => by cases h); rw [HPL.out] at this; exact this) hA1 (by decide) (Nat.le_trans hz7 hz6) rfl ?_; intro v7 w7 hr7 hf7; have K7 := hf7.blk (Blk.below HB6.out HK3.out) (.inr rfl); obtain ⟨⟨p0, q0⟩, ⟨p1, q1⟩, p2, q2⟩ := K7.c3; obtain ⟨a7, e7, hv7, _, _⟩ := slice_lenB hr7; subst hv7; have HR7 := Lib.hid hr7; have HF7 := Lib.hid hf7; clear hr7 K7 hf7))
      all_goals
        have hIn : CropI w W H (.slice (some ⟨b, off, none⟩) n c) x0 y0 x1 y1 tb (cropUp ps W x0 d y0 (q + 1)) (w7.setCell ⟨tb, 2, none⟩ (.slice a7 (l + d) e7)) := CropI.step HIj.out HB6.out HF7.out HR7.out (by rw [HUS.out, List.length_append, HPL.out, ← HD.out, HLL.out]) (by rw [HUS.out, pxCells_append]) hz4
        have HIn := Lib.hid hIn
        clear hIn
        go_wp2_with fail
        go_roundg (y1 - (j + 1))
        case measure => omega
        case rel => exact ⟨q + 1, by omega, by omega, by first | rfl | (congr 1; omega) | simp, by rw [HD.out]; exact HIn.out⟩
    · obtain rfl : y1 = j := by omega
      obtain ⟨oa, oc, hoe, _, _⟩ := slice_lenB ho
      subst hoe
      obtain rfl : q = y1 - y0 := by omega
      obtain ⟨l, hll⟩ : ∃ l, (cropUp ps W x0 (x1 - x0) y0 (y1 - y0)).length = l := ⟨_, rfl⟩
      rw [hll] at K3
      have ho' : wr.ownsRow (tb + 1) 43 4 (.slice oa l oc) l (pxCells (cropUp ps W x0 (x1 - x0) y0 (y1 - y0))) := by unfold OwnP at ho; rw [hll] at ho; exact ho
      have HLL := Lib.hid hll
      have HO := Lib.hid ho'
      have HK2 := Lib.hid K2
      obtain ⟨⟨d0, _⟩, ⟨d1, _⟩, ⟨d2, _⟩, d3, _⟩ := K1.c4
      obtain ⟨⟨p0, q0⟩, ⟨p1, q1⟩, p2, q2⟩ := K3.c3
      obtain ⟨⟨y0', g0⟩, ⟨y1', g1⟩, y2', g2⟩ := K2.c3
      have hr4 : w.heap.size + 1 + 1 < wr.heap.size := K2.lt
      have hr3 : w.heap.size + 1 < wr.heap.size := K1.lt
      clear ho ho' hll HIj HI K0 K1 K2 K3
      go_wp2_with fail
      obtain ⟨KE, FE⟩ := HK2.out.set3 (.int .i64 (x1 - x0)) (.int .i64 (y1 - y0)) (.slice oa l oc)
      refine bodyPost_ret (results_ct rfl _ KE rfl Try.underlying27 rfl (by kernel_rfl)) rfl ?_
      refine ⟨_, rfl, by (with_reducible repeat (first | assumption | exact Below.refl _ _ | refine Below.setCell ?_ (by first | omega | (simp; done) | (simp; omega)) _ | refine Below.drew ?_ | refine bdrewN ?_ _ | refine Below.alloc ?_ (by first | omega | (simp; done) | (simp; omega)) _)), ?_⟩
      show World.ownsRow _ _ _ _ _ (cropUp ps W x0 (x1 - x0) y0 (y1 - y0)).length _
      rw [HLL.out]
      exact ownsRow_mono (FE.row HO.out (.inl rfl)) (by omega)
end Go.Proofs.Ytgikmcgoaihggaa
