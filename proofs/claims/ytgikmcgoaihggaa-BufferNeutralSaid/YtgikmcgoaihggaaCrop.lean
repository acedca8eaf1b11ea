/- The program's Crop. -/
import Derived.Test.YtgikmcgoaihggaaCropP
import Derived.Test.YtgikmcgoaihggaaBDec
import Derived.Deep.RegionLaw
import Derived.IntWalk
set_option linter.unusedVariables false
set_option linter.unusedSimpArgs false
namespace Go.Proofs.Ytgikmcgoaihggaa
open Go.RowKit Go.Sort
attribute [local go_sem ↓] Go.wp_at_zero Go.wp_at_succ
attribute [local go_sem] calm calmAt calmUpon

set_option maxRecDepth 100000 in
set_option maxHeartbeats 4000000 in
theorem bcrop_bad (bw bh : Int) (A : Option Addr) (ps : List Px) (c : Nat) (r : Rc) (w : World) (hr : Rdp w A ps) (hl : ps.length ≤ 9223372036854775807) (he : cropE bw bh ps r ≠ 0) :
    Calls Try.prog 30 #[bufv bw bh (.slice A ps.length c), rcv r] w (BufE w (cropB bw bh ps r) (cropE bw bh ps r)) := by
  have hV := fun W (hb : Below w.heap.size w W) => bvalid_any bw bh A ps c W (hr.below hb) hl
  have hC1 := fun W => rempty_any r W
  cases k : bufB bw bh ps with
  | false =>
    obtain ⟨q1, q2⟩ := crop_bad r k
    rw [q1, q2]
    rw [k] at hV
    have HV := Lib.hid hV
    generalize ps.length = n at *
    obtain ⟨x0, y0, x1, y1⟩ := r
    clear hV hC1 hr k q1 q2 he
    go_enter Try.func30, Try.ntmps30; go_wp2_with fail; refine (HV.out _ (by (with_reducible repeat (first | assumption | exact Below.refl _ _ | refine Below.setCell ?_ (by first | omega | (simp; done) | (simp; omega)) _ | refine Below.drew ?_ | refine bdrewN ?_ _ | refine Below.alloc ?_ (by first | omega | (simp; done) | (simp; omega)) _)))).mono ?_; rintro e w2 ⟨rfl, hb_w2⟩; have hB2 : Below w.heap.size w w2 := bon (by (with_reducible repeat (first | assumption | exact Below.refl _ _ | refine Below.setCell ?_ (by first | omega | (simp; done) | (simp; omega)) _ | refine Below.drew ?_ | refine bdrewN ?_ _ | refine Below.alloc ?_ (by first | omega | (simp; done) | (simp; omega)) _))) (by simp; try omega) hb_w2; have K2 : Blk w2 (w.heap.size) 27 #[.int .i64 bw, .int .i64 bh, .slice A n c] := Blk.below hb_w2 (by (with_reducible repeat (first | assumption | (refine Blk.newAt ?_; first | rfl | (simp; done)) | refine Blk.alloc ?_ _ | refine Blk.drew ?_ | refine Blk.other ?_ (by simp) _))); have K3 : Blk w2 (w.heap.size + 1) 47 #[.int .i64 x0, .int .i64 y0, .int .i64 x1, .int .i64 y1] := Blk.below hb_w2 (by (with_reducible repeat (first | assumption | (refine Blk.newAt ?_; first | rfl | (simp; done)) | refine Blk.alloc ?_ _ | refine Blk.drew ?_ | refine Blk.other ?_ (by simp) _))); have K4 : Blk w2 (w.heap.size + 1 + 1) 27 #[.int .i64 0, .int .i64 0, .slice none 0 0] := Blk.below hb_w2 (by (with_reducible repeat (first | assumption | (refine Blk.newAt ?_; first | rfl | (simp; done)) | refine Blk.alloc ?_ _ | refine Blk.drew ?_ | refine Blk.other ?_ (by simp) _))); have HK2 := Lib.hid K2; have HK3 := Lib.hid K3; have HK4 := Lib.hid K4; clear hb_w2
    have hbz := Below.refl w2.heap.size w2
    clear K2 K3 K4
    have K := Blk.below hbz HK4.out; obtain ⟨⟨p0, q0⟩, ⟨p1, q1⟩, p2, q2⟩ := K.c3; go_wp2_with fail; obtain ⟨KE, FE⟩ := K.set3 (.int .i64 0) (.int .i64 0) (.slice none 0 0); refine bodyPost_ret (results_ct rfl _ KE rfl Try.underlying27 rfl (by kernel_rfl)) rfl ?_; exact ⟨_, rfl, by (with_reducible repeat (first | assumption | exact Below.refl _ _ | refine Below.setCell ?_ (by first | omega | (simp; done) | (simp; omega)) _ | refine Below.drew ?_ | refine bdrewN ?_ _ | refine Below.alloc ?_ (by first | omega | (simp; done) | (simp; omega)) _)), World.ownsRow_nil _ _ _ _⟩
  | true =>
    have hsm := bufB_small k
    by_cases k2 : emB r = false ∧ 0 ≤ r.x0 ∧ 0 ≤ r.y0 ∧ r.x1 ≤ bw ∧ r.y1 ≤ bh
    · exact absurd (crop_ok k k2).1 he
    · obtain ⟨q1, q2⟩ := crop_out k k2
      rw [q1, q2]
      rw [k] at hV
      have HV := Lib.hid hV
      clear q1 q2 he k
      cases k3 : emB r with
      | true =>
        rw [k3] at hC1
        have HC1 := Lib.hid hC1
        generalize ps.length = n at *
        obtain ⟨x0, y0, x1, y1⟩ := r
        clear hV hC1 hr k2 k3 hsm
        go_enter Try.func30, Try.ntmps30; go_wp2_with fail; refine (HV.out _ (by (with_reducible repeat (first | assumption | exact Below.refl _ _ | refine Below.setCell ?_ (by first | omega | (simp; done) | (simp; omega)) _ | refine Below.drew ?_ | refine bdrewN ?_ _ | refine Below.alloc ?_ (by first | omega | (simp; done) | (simp; omega)) _)))).mono ?_; rintro e w2 ⟨rfl, hb_w2⟩; have hB2 : Below w.heap.size w w2 := bon (by (with_reducible repeat (first | assumption | exact Below.refl _ _ | refine Below.setCell ?_ (by first | omega | (simp; done) | (simp; omega)) _ | refine Below.drew ?_ | refine bdrewN ?_ _ | refine Below.alloc ?_ (by first | omega | (simp; done) | (simp; omega)) _))) (by simp; try omega) hb_w2; have K2 : Blk w2 (w.heap.size) 27 #[.int .i64 bw, .int .i64 bh, .slice A n c] := Blk.below hb_w2 (by (with_reducible repeat (first | assumption | (refine Blk.newAt ?_; first | rfl | (simp; done)) | refine Blk.alloc ?_ _ | refine Blk.drew ?_ | refine Blk.other ?_ (by simp) _))); have K3 : Blk w2 (w.heap.size + 1) 47 #[.int .i64 x0, .int .i64 y0, .int .i64 x1, .int .i64 y1] := Blk.below hb_w2 (by (with_reducible repeat (first | assumption | (refine Blk.newAt ?_; first | rfl | (simp; done)) | refine Blk.alloc ?_ _ | refine Blk.drew ?_ | refine Blk.other ?_ (by simp) _))); have K4 : Blk w2 (w.heap.size + 1 + 1) 27 #[.int .i64 0, .int .i64 0, .slice none 0 0] := Blk.below hb_w2 (by (with_reducible repeat (first | assumption | (refine Blk.newAt ?_; first | rfl | (simp; done)) | refine Blk.alloc ?_ _ | refine Blk.drew ?_ | refine Blk.other ?_ (by simp) _))); have HK2 := Lib.hid K2; have HK3 := Lib.hid K3; have HK4 := Lib.hid K4; clear hb_w2
        obtain ⟨⟨c0, _⟩, ⟨c1, _⟩, c2, _⟩ := K2.c3; obtain ⟨⟨d0, _⟩, ⟨d1, _⟩, ⟨d2, _⟩, d3, _⟩ := K3.c4; have g0 := cell_regrown c0; have g1 := cell_regrown c1; have g2 := cell_regrown c2; have g3 := cell_regrown d0; have g4 := cell_regrown d1; have g5 := cell_regrown d2; have g6 := cell_regrown d3; clear K2 K3 K4
        go_upto_region 3 with fail
        (refine wp_region_calm 8 [] [false, false, false, false, false, false, false, false] (by kernel_rfl) (by kernel_rfl) (by decide) (freshOk_of (by kernel_rfl) (by kernel_rfl) (fun x hx => by cases hx)) ?_; simp only [List.take_succ_cons, List.take_zero, List.drop_succ_cons, List.drop_zero, List.zip_cons_cons, List.zip_nil_left, List.zip_nil_right]; (repeat (first | refine wpCalm_pass ?_ | (refine wpCalm_step (fun K hK => ?_); go_simp; first | (refine hK _ ?_; clear hK K) | (apply Exists.intro; refine ⟨fun _ => ?_, hK _ ?_⟩; (exact HC1.out _); clear hK K)))); (first | refine wpCalm_nil ?_ | skip))
        intro F wz hF
        obtain rfl := hF.nil
        have hbz := hF.below
        have hB3 : Below w.heap.size w wz := bon hB2 hB2.size hbz
        clear g0 g1 g2 g3 g4 g5 g6 hF c0 c1 c2 d0 d1 d2 d3
        unfold putL
        have K := Blk.below hbz HK4.out; obtain ⟨⟨p0, q0⟩, ⟨p1, q1⟩, p2, q2⟩ := K.c3; go_wp2_with fail; obtain ⟨KE, FE⟩ := K.set3 (.int .i64 0) (.int .i64 0) (.slice none 0 0); refine bodyPost_ret (results_ct rfl _ KE rfl Try.underlying27 rfl (by kernel_rfl)) rfl ?_; exact ⟨_, rfl, by (with_reducible repeat (first | assumption | exact Below.refl _ _ | refine Below.setCell ?_ (by first | omega | (simp; done) | (simp; omega)) _ | refine Below.drew ?_ | refine bdrewN ?_ _ | refine Below.alloc ?_ (by first | omega | (simp; done) | (simp; omega)) _)), World.ownsRow_nil _ _ _ _⟩
      | false =>
        have hfr : emB ⟨0, 0, bw, bh⟩ = false := by rw [emB_iff]; simp only [crd]; omega
        have hW := fun W => rwithin_any r ⟨0, 0, bw, bh⟩ W k3 hfr
        have hni : ¬ r = interR r ⟨0, 0, bw, bh⟩ := fun e => k2 ⟨k3, (inter_frame k3 hsm.1 hsm.2.1).1 e⟩
        rw [decide_eq_false hni] at hW
        rw [k3] at hC1
        have HC1 := Lib.hid hC1
        have HW := Lib.hid hW
        generalize ps.length = n at *
        obtain ⟨x0, y0, x1, y1⟩ := r
        clear hV hC1 hr k2 k3 hsm hW hni hfr
        go_enter Try.func30, Try.ntmps30; go_wp2_with fail; refine (HV.out _ (by (with_reducible repeat (first | assumption | exact Below.refl _ _ | refine Below.setCell ?_ (by first | omega | (simp; done) | (simp; omega)) _ | refine Below.drew ?_ | refine bdrewN ?_ _ | refine Below.alloc ?_ (by first | omega | (simp; done) | (simp; omega)) _)))).mono ?_; rintro e w2 ⟨rfl, hb_w2⟩; have hB2 : Below w.heap.size w w2 := bon (by (with_reducible repeat (first | assumption | exact Below.refl _ _ | refine Below.setCell ?_ (by first | omega | (simp; done) | (simp; omega)) _ | refine Below.drew ?_ | refine bdrewN ?_ _ | refine Below.alloc ?_ (by first | omega | (simp; done) | (simp; omega)) _))) (by simp; try omega) hb_w2; have K2 : Blk w2 (w.heap.size) 27 #[.int .i64 bw, .int .i64 bh, .slice A n c] := Blk.below hb_w2 (by (with_reducible repeat (first | assumption | (refine Blk.newAt ?_; first | rfl | (simp; done)) | refine Blk.alloc ?_ _ | refine Blk.drew ?_ | refine Blk.other ?_ (by simp) _))); have K3 : Blk w2 (w.heap.size + 1) 47 #[.int .i64 x0, .int .i64 y0, .int .i64 x1, .int .i64 y1] := Blk.below hb_w2 (by (with_reducible repeat (first | assumption | (refine Blk.newAt ?_; first | rfl | (simp; done)) | refine Blk.alloc ?_ _ | refine Blk.drew ?_ | refine Blk.other ?_ (by simp) _))); have K4 : Blk w2 (w.heap.size + 1 + 1) 27 #[.int .i64 0, .int .i64 0, .slice none 0 0] := Blk.below hb_w2 (by (with_reducible repeat (first | assumption | (refine Blk.newAt ?_; first | rfl | (simp; done)) | refine Blk.alloc ?_ _ | refine Blk.drew ?_ | refine Blk.other ?_ (by simp) _))); have HK2 := Lib.hid K2; have HK3 := Lib.hid K3; have HK4 := Lib.hid K4; clear hb_w2
        obtain ⟨⟨c0, _⟩, ⟨c1, _⟩, c2, _⟩ := K2.c3; obtain ⟨⟨d0, _⟩, ⟨d1, _⟩, ⟨d2, _⟩, d3, _⟩ := K3.c4; have g0 := cell_regrown c0; have g1 := cell_regrown c1; have g2 := cell_regrown c2; have g3 := cell_regrown d0; have g4 := cell_regrown d1; have g5 := cell_regrown d2; have g6 := cell_regrown d3; clear K2 K3 K4
        go_upto_region 3 with fail
        (refine wp_region_calm 8 [] [false, false, false, false, false, false, false, false] (by kernel_rfl) (by kernel_rfl) (by decide) (freshOk_of (by kernel_rfl) (by kernel_rfl) (fun x hx => by cases hx)) ?_; simp only [List.take_succ_cons, List.take_zero, List.drop_succ_cons, List.drop_zero, List.zip_cons_cons, List.zip_nil_left, List.zip_nil_right]; (repeat (first | refine wpCalm_pass ?_ | (refine wpCalm_step (fun K hK => ?_); go_simp; first | (refine hK _ ?_; clear hK K) | (apply Exists.intro; refine ⟨fun _ => ?_, hK _ ?_⟩; (first | exact HC1.out _ | exact bframe_any _ _ _ rfl _ | exact HW.out _); clear hK K)))); (first | refine wpCalm_nil ?_ | skip))
        intro F wz hF
        obtain rfl := hF.nil
        have hbz := hF.below
        have hB3 : Below w.heap.size w wz := bon hB2 hB2.size hbz
        clear g0 g1 g2 g3 g4 g5 g6 hF c0 c1 c2 d0 d1 d2 d3
        unfold putL
        have K := Blk.below hbz HK4.out; obtain ⟨⟨p0, q0⟩, ⟨p1, q1⟩, p2, q2⟩ := K.c3; go_wp2_with fail; obtain ⟨KE, FE⟩ := K.set3 (.int .i64 0) (.int .i64 0) (.slice none 0 0); refine bodyPost_ret (results_ct rfl _ KE rfl Try.underlying27 rfl (by kernel_rfl)) rfl ?_; exact ⟨_, rfl, by (with_reducible repeat (first | assumption | exact Below.refl _ _ | refine Below.setCell ?_ (by first | omega | (simp; done) | (simp; omega)) _ | refine Below.drew ?_ | refine bdrewN ?_ _ | refine Below.alloc ?_ (by first | omega | (simp; done) | (simp; omega)) _)), World.ownsRow_nil _ _ _ _⟩
end Go.Proofs.Ytgikmcgoaihggaa
