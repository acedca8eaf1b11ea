/- The reference's Crop. -/
import Derived.Test.YtgikmcgoaihggaaCropI
import Derived.Test.YtgikmcgoaihggaaBAt
import Derived.Deep.RegionLaw
import Derived.IntWalk
set_option linter.unusedVariables false
set_option linter.unusedSimpArgs false
namespace Go.Proofs.Ytgikmcgoaihggaa
open Go.RowKit Go.Sort
attribute [local go_sem ↓] Go.wp_at_zero Go.wp_at_succ

theorem rowP_one {ps : List Px} {i n : Nat} (h : i + n < ps.length) : rowP ps i (n + 1) = rowP ps i n ++ [ps[i + n]] := by
  unfold rowP
  rw [List.take_add_one, List.getElem?_drop, List.getElem?_eq_getElem h]
  rfl
theorem atP_in {W H x y : Nat} {ps : List Px} (hW : 1 ≤ W ∧ W ≤ 256) (hH : 1 ≤ H ∧ H ≤ 256) (hx : x < W) (hy : y < H) (hlen : ps.length = H * W) (h : y * W + x < ps.length) : atP W H ps x y = ps[y * W + x] := by
  have e : atB W H ps.length x y = true := by
    rw [atB_iff]
    refine ⟨by omega, by omega, by omega, by omega, ?_⟩
    have : ((y * W : Nat) : Int) = (y : Int) * (W : Int) := by simp
    omega
  have e2 : ((y : Int) * (W : Int) + (x : Int)).toNat = y * W + x := by
    have : ((y * W : Nat) : Int) = (y : Int) * (W : Int) := by simp
    omega
  unfold atP
  rw [if_pos e, e2, List.getD_eq_getElem?_getD, List.getElem?_eq_getElem h, Option.getD_some]
/-- The pixels after some rows and a part of the next. -/
def cropV (ps : List Px) (W x0 n y0 q i : Nat) : List Px := cropUp ps W x0 n y0 q ++ rowP ps ((y0 + q) * W + x0) i
theorem cropV_zero (ps : List Px) (W x0 n y0 q : Nat) : cropV ps W x0 n y0 q 0 = cropUp ps W x0 n y0 q := by simp [cropV, rowP]
theorem cropV_row (ps : List Px) (W x0 n y0 q : Nat) : cropV ps W x0 n y0 q n = cropUp ps W x0 n y0 (q + 1) := by rw [cropUp_succ]; rfl
set_option maxRecDepth 100000 in
set_option maxHeartbeats 4000000 in
theorem vcrop_run (W H x0 y0 x1 y1 : Nat) (A : Option Addr) (ps : List Px) (c : Nat) (w : World) (hr : Rdp w A ps) (hlen : ps.length = H * W) (hW : 1 ≤ W ∧ W ≤ 256) (hH : 1 ≤ H ∧ H ≤ 256)
    (hx : x0 < x1 ∧ x1 ≤ W) (hy : y0 < y1 ∧ y1 ≤ H) (kb : bufB W H ps = true) :
    Calls Try.prog 31 #[bufv W H (.slice A ps.length c), rcv ⟨x0, y0, x1, y1⟩] w (BufE w ((x1 : Int) - x0, (y1 : Int) - y0, cropUp ps W x0 (x1 - x0) y0 (y1 - y0)) 0) := by
  have hHW := Nat.mul_le_mul hH.2 hW.2
  have hV := fun W0 (hb : Below w.heap.size w W0) => vvalid_any W H A ps c W0 (hr.below hb) (by omega)
  rw [kb] at hV
  have hA := fun W0 (hb : Below w.heap.size w W0) (x y : Int) => vat_any W H x y A ps c W0 (hr.below hb) (by omega)
  have k3 : emB ⟨x0, y0, x1, y1⟩ = false := by rw [emB_iff]; simp only [crd]; omega
  have hC1 := fun W0 => r4empty_any ⟨x0, y0, x1, y1⟩ W0
  rw [k3] at hC1
  have HV := Lib.hid hV
  have HA := Lib.hid hA
  have HC1 := Lib.hid hC1
  obtain ⟨n, hn⟩ : ∃ n, ps.length = n := ⟨_, rfl⟩
  rw [hn] at HV HA hlen ⊢
  have HN := Lib.hid hn
  have HL := Lib.hid hlen
  clear hV hC1 hA hr kb hlen hn k3
  go_enter Try.func31, Try.ntmps31
  go_wp2_with fail
  refine (HV.out _ (by (with_reducible repeat (first | assumption | exact Below.refl _ _ | refine Below.setCell ?_ (by first | omega | (simp; done) | (simp; omega)) _ | refine Below.drew ?_ | refine bdrewN ?_ _ | refine Below.alloc ?_ (by first | omega | (simp; done) | (simp; omega)) _)))).mono ?_; rintro e w2 ⟨rfl, hb_w2⟩
  have hB2 : Below w.heap.size w w2 := bon (by (with_reducible repeat (first | assumption | exact Below.refl _ _ | refine Below.setCell ?_ (by first | omega | (simp; done) | (simp; omega)) _ | refine Below.drew ?_ | refine bdrewN ?_ _ | refine Below.alloc ?_ (by first | omega | (simp; done) | (simp; omega)) _))) (by simp; try omega) hb_w2
  have K2 : Blk w2 (w.heap.size) 27 #[.int .i64 W, .int .i64 H, .slice A n c] := Blk.below hb_w2 (by (with_reducible repeat (first | assumption | (refine Blk.newAt ?_; first | rfl | (simp; done)) | refine Blk.alloc ?_ _ | refine Blk.drew ?_ | refine Blk.other ?_ (by simp) _)))
  have K3 : Blk w2 (w.heap.size + 1) 47 #[.int .i64 x0, .int .i64 y0, .int .i64 x1, .int .i64 y1] := Blk.below hb_w2 (by (with_reducible repeat (first | assumption | (refine Blk.newAt ?_; first | rfl | (simp; done)) | refine Blk.alloc ?_ _ | refine Blk.drew ?_ | refine Blk.other ?_ (by simp) _)))
  have K4 : Blk w2 (w.heap.size + 1 + 1) 27 #[.int .i64 0, .int .i64 0, .slice none 0 0] := Blk.below hb_w2 (by (with_reducible repeat (first | assumption | (refine Blk.newAt ?_; first | rfl | (simp; done)) | refine Blk.alloc ?_ _ | refine Blk.drew ?_ | refine Blk.other ?_ (by simp) _)))
  have HK2 := Lib.hid K2
  have HK3 := Lib.hid K3
  have HK4 := Lib.hid K4
  clear hb_w2
  obtain ⟨⟨d0, _⟩, ⟨d1, _⟩, ⟨d2, _⟩, d3, _⟩ := K3.c4
  clear K2 K3 K4
  go_wp2_with fail
  refine (HC1.out _).mono ?_; rintro e wz ⟨rfl, hbz⟩
  have hB3 : Below w.heap.size w wz := bon hB2 hB2.size hbz
  have K2 := Blk.below hbz HK2.out
  have K3 := Blk.below hbz HK3.out
  have K4 := Blk.below hbz HK4.out
  obtain ⟨⟨c0, _⟩, ⟨c1, _⟩, c2, _⟩ := K2.c3
  obtain ⟨⟨d0, _⟩, ⟨d1, _⟩, ⟨d2, _⟩, d3, _⟩ := K3.c4
  have HB3 := Lib.hid hB3
  have hz2 := K2.lt
  have hz3 := K3.lt
  have hz4 := K4.lt
  have HK2 := Lib.hid K2
  have HK3 := Lib.hid K3
  have HK4 := Lib.hid K4
  clear hB2 hbz hB3 K2 K3 K4 HC1 HV
  have n1 : decide ((x0 : Int) < 0) = false := by simp
  have n2 : decide ((y0 : Int) < 0) = false := by simp
  have n3 : decide (W < x1) = false := by simp; omega
  have n4 : decide (H < y1) = false := by simp; omega
  have n5 : ¬ W < x1 := by omega
  have n6 : ¬ H < y1 := by omega
  have n7 : ¬ (x0 : Int) < 0 := by omega
  have n8 : ¬ (y0 : Int) < 0 := by omega
  go_wp2_with fail
  generalize hWd : World.alloc _ _ = w0
  have hI0 : CropI w W H (.slice A n c) x0 y0 x1 y1 wz.heap.size (cropUp ps W x0 (x1 - x0) y0 0) w0 := by
    subst hWd
    refine ⟨HB3.out.alloc (by omega) _, by simp, HK2.out.alloc _, HK3.out.alloc _, HK4.out.alloc _, .slice none 0 0, Blk.new _ _ _, World.ownsRow_nil _ _ _ _⟩
  have HI := Lib.hid hI0
  obtain ⟨tb, htb⟩ : ∃ tb, wz.heap.size = tb := ⟨_, rfl⟩
  rw [htb] at HI hz2 hz3 hz4 ⊢
  clear hWd hI0 HK2 HK3 HK4 HB3 d0 d1 d2 d3 c0 c1 c2 htb
  go_loopg [7] (y1 - y0) (fun k s7 wr => ∃ q : Nat, k = y1 - (y0 + q) ∧ y0 + q ≤ y1 ∧ s7 = .int .i64 ((y0 + q : Nat) : Int) ∧ CropI w W H (.slice A n c) x0 y0 x1 y1 tb (cropUp ps W x0 (x1 - x0) y0 q) wr)
  case atStart => exact ⟨0, by omega, by omega, by first | rfl | simp, HI.out⟩
  case round =>
    obtain ⟨q, hk, hq, rfl, hI⟩ := hrel
    have HIj := Lib.hid hI
    obtain ⟨hB, hzr, K0, K1, K2, ov, K3, ho⟩ := hI
    obtain ⟨j, hj⟩ : ∃ j, y0 + q = j := ⟨_, rfl⟩
    rw [hj] at hk hq ⊢
    have hj0 : y0 ≤ j := by omega
    by_cases hlt : j < y1
    · obtain ⟨⟨d0, _⟩, ⟨d1, _⟩, ⟨d2, _⟩, d3, _⟩ := K1.c4
      clear HI hB hzr K0 K1 K2 K3 ho
      go_wp2_with fail
      go_loopg [8] (x1 - x0) (fun k s8 wr => ∃ i : Nat, k = x1 - (x0 + i) ∧ x0 + i ≤ x1 ∧ s8 = .int .i64 ((x0 + i : Nat) : Int) ∧ CropI w W H (.slice A n c) x0 y0 x1 y1 tb (cropV ps W x0 (x1 - x0) y0 q i) wr)
      case atStart => exact ⟨0, by omega, by omega, by first | rfl | simp, by rw [cropV_zero]; exact HIj.out⟩
      case round =>
        obtain ⟨i, hk2, hi, rfl, hI⟩ := hrel
        have HIi := Lib.hid hI
        obtain ⟨hB, hzr, K0, K1, K2, ov, K3, ho⟩ := hI
        obtain ⟨x, hxi⟩ : ∃ x, x0 + i = x := ⟨_, rfl⟩
        rw [hxi] at hk2 hi ⊢
        have hx0 : x0 ≤ x := by omega
        by_cases hlti : x < x1
        · have hin := crop_in (W := W) (H := H) (y := j) (x0 := x) (n := 1) (by omega) (by omega)
          have hmn : j * W + x < ps.length := by rw [HN.out, HL.out]; omega
          have hat := atP_in hW hH (x := x) (y := j) (by omega) (by omega) (by rw [HN.out]; exact HL.out) hmn
          have hul := cropUp_length (y0 := y0) (n := x1 - x0) (x0 := x0) (by rw [HN.out]; exact HL.out) (by omega) q (by omega)
          have hrl := rowP_length (ps := ps) (i := j * W + x0) (n := i) (by omega)
          have hrs := rowP_one (ps := ps) (i := j * W + x0) (n := i) (by omega)
          have hvl : (cropV ps W x0 (x1 - x0) y0 q i).length = q * (x1 - x0) + i := by unfold cropV; rw [hj, List.length_append, hul, hrl]
          have hvs : cropV ps W x0 (x1 - x0) y0 q (i + 1) = cropV ps W x0 (x1 - x0) y0 q i ++ [ps[j * W + x]] := by
            unfold cropV
            rw [hj, hrs, List.append_assoc]
            congr 3
            congr 1
            omega
          obtain ⟨X, hX⟩ : ∃ X, ps[j * W + x] = X := ⟨_, rfl⟩
          rw [hX] at hat hvs
          have hAt := fun W0 hb => HA.out W0 hb x j
          rw [hat] at hAt
          obtain ⟨X0, X1, X2, X3⟩ := X
          simp only at hAt
          have hbnd := Nat.mul_le_mul (show q ≤ 256 by omega) (show x1 - x0 ≤ 256 by omega)
          obtain ⟨oa, oc, hoe, _, _⟩ := slice_lenB ho
          subst hoe
          obtain ⟨l, hll⟩ : ∃ l, (cropV ps W x0 (x1 - x0) y0 q i).length = l := ⟨_, rfl⟩
          rw [hll] at K3
          have ho' : wr.ownsRow (tb + 1) 43 4 (.slice oa l oc) l (pxCells (cropV ps W x0 (x1 - x0) y0 q i)) := by unfold OwnP at ho; rw [hll] at ho; exact ho
          have hA1 : l + 1 ≤ 1000000 := by rw [← hll, hvl]; omega
          have HVS := Lib.hid hvs
          have HAT := Lib.hid hAt
          have HO := Lib.hid ho'
          have HLL := Lib.hid hll
          have HBr := Lib.hid hB
          have HK3 := Lib.hid K3
          obtain ⟨⟨c0, _⟩, ⟨c1, _⟩, c2, _⟩ := K0.c3
          obtain ⟨⟨d0, _⟩, ⟨d1, _⟩, ⟨d2, _⟩, d3, _⟩ := K1.c4
          obtain ⟨⟨p0, q0⟩, ⟨p1, q1⟩, p2, q2⟩ := K3.c3
          have hz7 : tb + 1 ≤ wr.heap.size := hzr
          have hr2 := K0.lt
          clear hin hmn hat hul hrl hrs hvl hvs hX hAt hbnd ho ho' hll hB K0 K1 K2 K3
          go_wp2_with fail
          go_region_law (first
            | (go_simp; go_at_call 28; refine (HAT.out _ (bon HBr.out HBr.out.size (by (with_reducible repeat (first | assumption | exact Below.refl _ _ | refine Below.setCell ?_ (by first | omega | (simp; done) | (simp; omega)) _ | refine Below.drew ?_ | refine bdrewN ?_ _ | refine Below.alloc ?_ (by first | omega | (simp; done) | (simp; omega)) _))))).mono ?_; rintro e w6 ⟨rfl, hb6⟩; have hb6' : Below wr.heap.size wr w6 := bon (by (with_reducible repeat (first | assumption | exact Below.refl _ _ | refine Below.setCell ?_ (by first | omega | (simp; done) | (simp; omega)) _ | refine Below.drew ?_ | refine bdrewN ?_ _ | refine Below.alloc ?_ (by first | omega | (simp; done) | (simp; omega)) _))) (by simp) hb6; have hz6 := hb6'.size; have hp6 : tb < w6.heap.size := Nat.lt_of_lt_of_le hzr hz6; obtain ⟨⟨p0, q0⟩, ⟨p1, q1⟩, p2, q2⟩ := (Blk.below hb6' HK3.out).c3; have HB6 := Lib.hid hb6'; clear hb6 hb6')
            | (refine step_app _ [43] rfl el_px (.tmp 68) (.tmp 73) rfl (tb + 1) (.slice oa l oc) l (pxCells (cropV ps W x0 (x1 - x0) y0 q i)) rfl (((FrT.ofBelow HB6.out 0 []).row HO.out (.inl rfl)).alloc _) (.slice (some ⟨w6.heap.size, 0, none⟩) 1 1) 1 (pxCell ⟨X0, X1, X2, X3⟩) rfl (Src.blk (cs := (pxCell ⟨X0, X1, X2, X3⟩).toArray) (Blk.newAt rfl) rfl (by simp [pxCell, Value.oneCell']) 1) hA1 (by decide) (by simp; exact Nat.le_of_lt hp6) rfl ?_; intro v7 w7 hr7 hf7; have K7 := hf7.blk ((Blk.below HB6.out HK3.out).alloc _) (.inr rfl); obtain ⟨⟨p0, q0⟩, ⟨p1, q1⟩, p2, q2⟩ := K7.c3; obtain ⟨a7, e7, hv7, _, _⟩ := slice_lenB hr7; subst hv7; have HR7 := Lib.hid hr7; have HF7 := Lib.hid hf7; clear hr7 K7 hf7))
          all_goals
            have hIn : CropI w W H (.slice A n c) x0 y0 x1 y1 tb (cropV ps W x0 (x1 - x0) y0 q (i + 1)) (w7.setCell ⟨tb, 2, none⟩ (.slice a7 (l + 1) e7)) := CropI.step HIi.out (HB6.out.alloc hz6 _) HF7.out HR7.out (by rw [HVS.out, List.length_append, HLL.out]; rfl) (by rw [HVS.out, pxCells_append]; rfl) hz4
            have HIn := Lib.hid hIn
            clear hIn
            go_wp2_with fail
            go_roundg (x1 - (x + 1))
            case measure => omega
            case rel => exact ⟨i + 1, by omega, by omega, by first | rfl | (congr 1; omega) | simp, HIn.out⟩
        · obtain rfl : i = x1 - x0 := by omega
          obtain ⟨⟨d0, _⟩, ⟨d1, _⟩, ⟨d2, _⟩, d3, _⟩ := K1.c4
          rw [cropV_row] at HIi
          clear hB hzr K0 K1 K2 K3 ho
          go_wp2_with fail
          go_roundg (y1 - (j + 1))
          case measure => omega
          case rel => exact ⟨q + 1, by omega, by omega, by first | rfl | (congr 1; omega) | simp, HIi.out⟩
    · obtain rfl : y1 = j := by omega
      obtain ⟨oa, oc, hoe, _, _⟩ := slice_lenB ho
      subst hoe
      obtain rfl : q = y1 - y0 := by omega
      obtain ⟨l, hll⟩ : ∃ l, (cropUp ps W x0 (x1 - x0) y0 (y1 - y0)).length = l := ⟨_, rfl⟩
      rw [hll] at K3
      have ho' : wr.ownsRow (tb + 1) 43 4 (.slice oa l oc) l (pxCells (cropUp ps W x0 (x1 - x0) y0 (y1 - y0))) := by unfold OwnP at ho; rw [hll] at ho; exact ho
      have HLL := Lib.hid hll
      have HO := Lib.hid ho'
      have HK2 := Lib.hid K2
      obtain ⟨⟨d0, _⟩, ⟨d1, _⟩, ⟨d2, _⟩, d3, _⟩ := K1.c4
      obtain ⟨⟨p0, q0⟩, ⟨p1, q1⟩, p2, q2⟩ := K3.c3
      obtain ⟨⟨y0', g0⟩, ⟨y1', g1⟩, y2', g2⟩ := K2.c3
      have hr4 : w.heap.size + 1 + 1 < wr.heap.size := K2.lt
      have hr3 : w.heap.size + 1 < wr.heap.size := K1.lt
      clear ho ho' hll HIj HI K0 K1 K2 K3
      go_wp2_with fail
      obtain ⟨KE, FE⟩ := HK2.out.set3 (.int .i64 (x1 - x0)) (.int .i64 (y1 - y0)) (.slice oa l oc)
      refine bodyPost_ret (results_ct rfl _ KE rfl Try.underlying27 rfl (by kernel_rfl)) rfl ?_
      refine ⟨_, rfl, by (with_reducible repeat (first | assumption | exact Below.refl _ _ | refine Below.setCell ?_ (by first | omega | (simp; done) | (simp; omega)) _ | refine Below.drew ?_ | refine bdrewN ?_ _ | refine Below.alloc ?_ (by first | omega | (simp; done) | (simp; omega)) _)), ?_⟩
      show World.ownsRow _ _ _ _ _ (cropUp ps W x0 (x1 - x0) y0 (y1 - y0)).length _
      rw [HLL.out]
      exact ownsRow_mono (FE.row HO.out (.inl rfl)) (by omega)
end Go.Proofs.Ytgikmcgoaihggaa
