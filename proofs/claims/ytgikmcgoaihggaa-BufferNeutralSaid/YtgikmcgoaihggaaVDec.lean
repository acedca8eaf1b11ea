/- The reference's Decode. -/
import Derived.Test.YtgikmcgoaihggaaBDec
import Derived.Deep.RegionHeld3
import Derived.Deep.RegionLaw
import Derived.Deep.DeepCutAuto
import Derived.IntWalk
set_option linter.unusedVariables false
set_option linter.unusedSimpArgs false
namespace Go.Proofs.Ytgikmcgoaihggaa
open Go.RowKit Go.Sort
attribute [local go_sem ↓] Go.wp_at_zero Go.wp_at_succ

theorem r8clamp_any (r g b a : Int) (w : World) :
    Calls Try.prog 42 #[px r g b a] w fun e w' => e = .returned (px (min r a) (min g a) (min b a) a) ∧ Below w.heap.size w w' := by
  go_enter Try.func42, Try.ntmps42
  go_wp2
  all_goals
    refine bodyPost_ret (v := px (min r a) (min g a) (min b a) a) (by simp [results, Try.results42, go_sem, Int.min_def]; omega) rfl ⟨rfl, ?_⟩
    (with_reducible repeat (first | assumption | exact Below.refl _ _ | refine Below.setCell ?_ (by first | omega | (simp; done) | (simp; omega)) _ | refine Below.drew ?_ | refine bdrewN ?_ _ | refine Below.alloc ?_ (by first | omega | (simp; done) | (simp; omega)) _))
set_option maxRecDepth 100000 in
set_option maxHeartbeats 4000000 in
theorem vdecode_ok1 (W H s : Nat) (A : Option Addr) (zs : List Int) (c : Nat) (w : World) (hW : 1 ≤ W ∧ W ≤ 256) (hH : 1 ≤ H ∧ H ≤ 256) (h1 : 4 * W ≤ s) (h2 : s % 4 = 0) (h3 : s ≤ zs.length / H)
    (hl : zs.length ≤ c ∧ c ≤ 9223372036854775807) (hr : Rd w .u8 A zs) (hz : ∀ z ∈ zs, 0 ≤ z ∧ z ≤ 255) :
    Calls Try.prog 15 #[.int .i64 1, .int .i64 W, .int .i64 H, .int .i64 s, .slice A zs.length c] w (DecOk w W H (decUp 1 s W zs H 0)) := by
  obtain ⟨n, hn⟩ : ∃ n, zs.length = n := ⟨_, rfl⟩
  have hs1 := fun W' => vsize_any W H W'
  rw [(szB_iff W).2 (by omega), (szB_iff H).2 (by omega)] at hs1
  rw [hn] at h3 hl ⊢
  have hsn : s ≤ n := Nat.le_trans h3 (Nat.div_le_self _ _)
  have HBD := Lib.hid (fun j i hj hi => dec_bound (j := j) (i := i) h1 h3 hH.1 hj hi)
  have g1 : ¬ (s : Int) < 4 * (W : Int) := by omega
  have g2 : ((s : Int) % 4 != 0) = false := by rw [bne_eq_false_iff_eq]; omega
  have g3 : ¬ (n : Int) / (H : Int) < (s : Int) := by omega
  have hq0 : 0 ≤ (n : Int) / (H : Int) := Int.ediv_nonneg (by omega) (by omega)
  have hq1 : (n : Int) / (H : Int) ≤ 9223372036854775807 := Int.le_trans (Int.ediv_le_self _ (by omega)) (by omega)
  have HS1 := Lib.hid hs1
  have HN := Lib.hid hn
  have HR := Lib.hid hr
  have HZ := Lib.hid hz
  clear hs1 hn hr hz h2 h3
  obtain ⟨hW1, hW2⟩ := hW
  obtain ⟨hH1, hH2⟩ := hH
  obtain ⟨hc1, hc2⟩ := hl
  have hH0 : ¬ (H : Int) = 0 := by omega
  go_enter Try.func15, Try.ntmps15
  go_wp2_with fail
  refine (HS1.out _).mono ?_; rintro e w' ⟨rfl, rfl⟩
  go_wp2_with fail
  generalize hWd : World.alloc (World.alloc _ _) _ = w0
  have hzW : w0.heap.size = w.heap.size + 1 + 1 := by subst hWd; simp
  have hB0 : Below w.heap.size w w0 := by subst hWd; (with_reducible repeat (first | assumption | exact Below.refl _ _ | refine Below.setCell ?_ (by first | omega | (simp; done) | (simp; omega)) _ | refine Below.drew ?_ | refine bdrewN ?_ _ | refine Below.alloc ?_ (by first | omega | (simp; done) | (simp; omega)) _))
  have K10 : Blk w0 w.heap.size 27 #[.int .i64 0, .int .i64 0, .slice none 0 0] := by subst hWd; (with_reducible repeat (first | assumption | (refine Blk.newAt ?_; first | rfl | (simp; done)) | refine Blk.alloc ?_ _ | refine Blk.drew ?_ | refine Blk.other ?_ (by simp) _))
  have K12 : Blk w0 (w.heap.size + 1) 27 #[.int .i64 W, .int .i64 H, .slice none 0 0] := by subst hWd; (with_reducible repeat (first | assumption | (refine Blk.newAt ?_; first | rfl | (simp; done)) | refine Blk.alloc ?_ _ | refine Blk.drew ?_ | refine Blk.other ?_ (by simp) _))
  have hz0 : w.heap.size + 1 < w0.heap.size := by omega
  have hz00 : w.heap.size < w0.heap.size := by omega
  have HI0 : DecI w W H w0.heap.size (decUp 1 s W zs 0 0) w0 := ⟨hB0, Nat.le_refl _, K10, .slice none 0 0, K12, World.ownsRow_nil _ _ _ _⟩
  have HI := Lib.hid HI0
  clear hWd hzW HS1 g1 g2 g3 hq0 hq1 hB0 K10 K12 HI0
  go_loopg [13] H (fun k s13 wr => ∃ j : Nat, k = H - j ∧ j ≤ H ∧ s13 = .int .i64 j ∧ DecI w W H w0.heap.size (decUp 1 s W zs j 0) wr)
  case atStart => exact ⟨0, by omega, by omega, by first | rfl | simp, HI.out⟩
  case round =>
    obtain ⟨j, hk, hj, rfl, hI⟩ := hrel
    have HIj := Lib.hid hI
    clear hI HI
    by_cases hlt : j < H
    · go_wp2_with fail
      go_loopg [14] W (fun k s14 wr => ∃ i : Nat, k = W - i ∧ i ≤ W ∧ s14 = .int .i64 i ∧ DecI w W H w0.heap.size (decUp 1 s W zs j i) wr)
      case atStart => exact ⟨0, by omega, by omega, by first | rfl | simp, HIj.out⟩
      case round =>
        obtain ⟨i, hk2, hi, rfl, hI⟩ := hrel
        by_cases hlti : i < W
        · obtain ⟨hB, hzr, K10, ov, K12, ho⟩ := hI
          have hkb := HBD.out j i hlt hlti
          obtain ⟨x0, hx0⟩ : ∃ x, zs[j * s + 4 * i]'(by rw [HN.out]; omega) = x := ⟨_, rfl⟩
          obtain ⟨x1, hx1⟩ : ∃ x, zs[j * s + 4 * i + 1]'(by rw [HN.out]; omega) = x := ⟨_, rfl⟩
          obtain ⟨x2, hx2⟩ : ∃ x, zs[j * s + 4 * i + 2]'(by rw [HN.out]; omega) = x := ⟨_, rfl⟩
          obtain ⟨x3, hx3⟩ : ∃ x, zs[j * s + 4 * i + 3]'(by rw [HN.out]; omega) = x := ⟨_, rfl⟩
          have r0 := HZ.out _ (List.getElem_mem (by rw [HN.out]; omega : j * s + 4 * i < zs.length))
          have r1 := HZ.out _ (List.getElem_mem (by rw [HN.out]; omega : j * s + 4 * i + 1 < zs.length))
          have r2 := HZ.out _ (List.getElem_mem (by rw [HN.out]; omega : j * s + 4 * i + 2 < zs.length))
          have r3 := HZ.out _ (List.getElem_mem (by rw [HN.out]; omega : j * s + 4 * i + 3 < zs.length))
          obtain ⟨b, off, hA, hbl, c0⟩ := HR.out (j * s + 4 * i) (by rw [HN.out]; omega)
          obtain ⟨b', off', hA1, _, c1⟩ := HR.out (j * s + 4 * i + 1) (by rw [HN.out]; omega)
          obtain ⟨b'', off'', hA2, _, c2⟩ := HR.out (j * s + 4 * i + 2) (by rw [HN.out]; omega)
          obtain ⟨b3, off3, hA3, _, c3⟩ := HR.out (j * s + 4 * i + 3) (by rw [HN.out]; omega)
          obtain ⟨rfl, rfl⟩ := addr_inj (hA.symm.trans hA1)
          obtain ⟨rfl, rfl⟩ := addr_inj (hA.symm.trans hA2)
          obtain ⟨rfl, rfl⟩ := addr_inj (hA.symm.trans hA3)
          rw [hx0] at c0 r0
          rw [hx1] at c1 r1
          rw [hx2] at c2 r2
          rw [hx3] at c3 r3
          have hdp : decP 1 zs (j * s + 4 * i) = clampP ⟨x2, x1, x0, x3⟩ := by rw [decP_at (by rw [HN.out]; omega), hx0, hx1, hx2]; first | rfl | (rw [hx3]; rfl)
          replace c0 := (hB.cell (p := ⟨b, _, none⟩) hbl).trans c0
          replace c1 := (hB.cell (p := ⟨b, _, none⟩) hbl).trans c1
          replace c2 := (hB.cell (p := ⟨b, _, none⟩) hbl).trans c2
          replace c3 := (hB.cell (p := ⟨b, _, none⟩) hbl).trans c3
          have hbr : b < wr.heap.size := Nat.lt_of_lt_of_le hbl hB.size
          have HDP := Lib.hid hdp
          have hup := decUp_one 1 s W zs j i
          have hul := decUp_length 1 s W zs j i
          have hrb := rows_bound (j := j) (i := i) hW2 hH2 hlt (by omega)
          rw [← hul] at hrb
          have HUP := Lib.hid hup
          subst hA
          clear hx0 hx1 hx2 hx3 hA1 hA2 hA3 hdp hup hul
          obtain ⟨m, hm⟩ : ∃ m : Nat, j * s + 4 * i = m := ⟨_, rfl⟩
          rw [hm] at c0 c1 c2 c3 hkb
          have em : (j : Int) * (s : Int) + 4 * (i : Int) = (m : Int) := by rw [← hm]; simp
          have hmx : 0 ≤ (j : Int) * (s : Int) ∧ (j : Int) * (s : Int) ≤ m := by constructor; exact Int.mul_nonneg (by omega) (by omega); omega
          have HM := Lib.hid hm
          have EM := Lib.hid em
          clear hm em
          go_upto_region 16 with fail
          go_cut [15] (fun s15 wx => s15 = .int .i64 m ∧ wr = wx)
          case first =>
            have em := EM.out
            have hmn : ¬ c = m := by omega
            go_wp2_with fail
            go_meet
            exact ⟨rfl, rfl⟩
          case rest =>
            obtain ⟨rfl, rfl⟩ := hcut
            have m0 : (0 : Int) ≤ (m : Int) := by omega
            have d0 : (m : Int) < (n : Int) := by omega
            have d1 : (m : Int) + 1 < (n : Int) := by omega
            have d2 : (m : Int) + 2 < (n : Int) := by omega
            have d3 : (m : Int) + 3 < (n : Int) := by omega
            have m1 : (0 : Int) ≤ (m : Int) + 1 := by omega
            have m2 : (0 : Int) ≤ (m : Int) + 2 := by omega
            have m3 : (0 : Int) ≤ (m : Int) + 3 := by omega
            have t1 : ((m : Int) + 1).toNat = m + 1 := by omega
            have t2 : ((m : Int) + 2).toNat = m + 2 := by omega
            have t3 : ((m : Int) + 3).toNat = m + 3 := by omega
            have u1 : IntKind.i64.wrap ((m : Int) + 1) = (m : Int) + 1 := Go.IntWalk.i64_in _ (by omega)
            have u2 : IntKind.i64.wrap ((m : Int) + 2) = (m : Int) + 2 := Go.IntWalk.i64_in _ (by omega)
            have u3 : IntKind.i64.wrap ((m : Int) + 3) = (m : Int) + 3 := Go.IntWalk.i64_in _ (by omega)
            have nb : b ≠ wr.heap.size := Nat.ne_of_lt hbr
            have nb' : wr.heap.size ≠ b := Nat.ne_of_gt hbr
            clear hmx
            go_upto_region 17 with fail
            go_cut [16] (fun s16 wx => s16 = .pointer (some ⟨wr.heap.size, 0, none⟩) ∧ (wr.alloc (.cells #[.int .u8 x2, .int .u8 x1, .int .u8 x0, .int .u8 x3] 43)).drew = wx)
            case first =>
              go_region_held3 (fun w' => w'.cell? ⟨b, off + m, none⟩ = some (.int .u8 x0) ∧ w'.cell? ⟨b, off + (m + 1), none⟩ = some (.int .u8 x1) ∧ w'.cell? ⟨b, off + (m + 2), none⟩ = some (.int .u8 x2) ∧ w'.cell? ⟨b, off + (m + 3), none⟩ = some (.int .u8 x3)) (go_keep) (fail)
              go_wp2_with fail
              go_meet
              exact ⟨rfl, rfl⟩
            case rest =>
              obtain ⟨rfl, rfl⟩ := hcut
              obtain ⟨oa, oc, hoe, _, _⟩ := slice_lenB ho
              subst hoe
              obtain ⟨l, hll⟩ : ∃ l, (decUp 1 s W zs j i).length = l := ⟨_, rfl⟩
              rw [hll] at hrb K12
              have ho' : wr.ownsRow w0.heap.size 43 4 (.slice oa l oc) l (pxCells (decUp 1 s W zs j i)) := by unfold OwnP at ho; rw [hll] at ho; exact ho
              have HL := Lib.hid hll
              have HO := Lib.hid ho'
              have HK10 := Lib.hid K10
              have HK12 := Lib.hid K12
              obtain ⟨⟨e0, h0⟩, ⟨e1, h1⟩, e2, h2⟩ := K12.c3
              clear ho ho' K10 K12 hll c0 c1 c2 c3 d0 d1 d2 d3 m0 m1 m2 m3 t1 t2 t3 u1 u2 u3
              go_upto_region 20 with fail
              have hB5 : Below wr.heap.size wr (wr.alloc (.cells #[.int .u8 x2, .int .u8 x1, .int .u8 x0, .int .u8 x3] 43)).drew := ((Below.refl _ _).alloc (Nat.le_refl _) _).drew
              have K16 : Blk (wr.alloc (.cells #[.int .u8 x2, .int .u8 x1, .int .u8 x0, .int .u8 x3] 43)).drew wr.heap.size 43 #[.int .u8 x2, .int .u8 x1, .int .u8 x0, .int .u8 x3] := (Blk.new _ _ _).drew
              generalize (wr.alloc (.cells #[.int .u8 x2, .int .u8 x1, .int .u8 x0, .int .u8 x3] 43)).drew = w5 at *
              have HB5 := Lib.hid hB5
              have HK5 := Lib.hid (Blk.below hB5 HK12.out)
              have HO5 := Lib.hid ((FrT.ofBelow hB5 0 []).row HO.out (.inl rfl))
              have HT5 := Lib.hid (Blk.below hB5 HK10.out)
              have HW5 := Lib.hid (bon hB hB.size hB5)
              obtain ⟨⟨p0, q0⟩, ⟨p1, q1⟩, p2, q2⟩ := HK5.out.c3
              obtain ⟨⟨y0, _⟩, ⟨y1, _⟩, ⟨y2, _⟩, y3, _⟩ := K16.c4
              have hz5 := hB5.size
              have hb5 : w0.heap.size ≤ w5.heap.size := by omega
              have hA1 : l + 1 ≤ 1000000 := by omega
              clear e0 h0 e1 h1 e2 h2 hB5 K16 hB hzr hkb r0 r1 r2 r3 hbl hbr nb nb'
              go_region_law (first
                | (go_simp; go_at_call 42; refine (r8clamp_any _ _ _ _ _).mono ?_; rintro e w6 ⟨rfl, hb6⟩; have hb6' : Below w5.heap.size w5 w6 := bon (by (with_reducible repeat (first | assumption | exact Below.refl _ _ | refine Below.setCell ?_ (by first | omega | (simp; done) | (simp; omega)) _ | refine Below.drew ?_ | refine bdrewN ?_ _ | refine Below.alloc ?_ (by first | omega | (simp; done) | (simp; omega)) _))) (by simp) hb6; have hz6 := hb6'.size; obtain ⟨⟨p0, q0⟩, ⟨p1, q1⟩, p2, q2⟩ := (Blk.below hb6' HK5.out).c3; have hb6z : w0.heap.size ≤ w6.heap.size := Nat.le_trans hb5 hz6; have hp6 : w.heap.size + 1 < w6.heap.size := Nat.lt_of_lt_of_le hz0 hb6z; have HB6 := Lib.hid hb6'; clear hb6 hb6')
                | (refine step_app _ [43] rfl el_px (.tmp 89) (.tmp 92) rfl w0.heap.size (.slice oa l oc) l (pxCells (decUp 1 s W zs j i)) rfl (((FrT.ofBelow HB6.out 0 []).row HO5.out (.inl rfl)).alloc _) (.slice (some ⟨w6.heap.size, 0, none⟩) 1 1) 1 (pxCell ⟨min x2 x3, min x1 x3, min x0 x3, x3⟩) rfl (Src.blk (cs := (pxCell ⟨min x2 x3, min x1 x3, min x0 x3, x3⟩).toArray) (Blk.newAt rfl) rfl (by simp [pxCell, Value.oneCell']) 1) hA1 (by decide) (by simp; exact Nat.le_succ_of_le hb6z) rfl ?_; intro v7 w7 hr7 hf7; have hx7 : Below w0.heap.size w6 w7 := ((Below.refl _ _).alloc hb6z _).trans (hf7.toBelow (by simp; exact Nat.le_succ_of_le hb6z)); have K7 := hf7.blk ((Blk.below HB6.out HK5.out).alloc _) (.inr rfl); obtain ⟨⟨p0, q0⟩, ⟨p1, q1⟩, p2, q2⟩ := K7.c3; obtain ⟨a7, e7, hv7, _, _⟩ := slice_lenB hr7; subst hv7; have HR7 := Lib.hid hr7; have HX7 := Lib.hid hx7; have HK7 := Lib.hid K7; have HF7 := Lib.hid hf7; clear hr7 hx7 K7 hf7))
              all_goals
                have hx5 : Below w0.heap.size w5 w7 := (HB6.out.mono hb5).trans HX7.out
                have hIn : DecI w W H w0.heap.size (decUp 1 s W zs j (i + 1)) (w7.setCell ⟨w.heap.size + 1, 2, none⟩ (.slice a7 (l + 1) e7)) := by
                  refine ⟨((HW5.out.trans (hx5.mono (by omega))).setCell (by simp) _), (by simp [World.setCell]; exact Nat.le_trans hb5 hx5.size), (HF7.out.blk ((Blk.below HB6.out HT5.out).alloc _) (.inr rfl)).other (by simp) _, _, HK7.out.set 2 _, ?_⟩
                  have f3 : FrT 0 [27] w7 (w7.setCell ⟨w.heap.size + 1, 2, none⟩ (.slice a7 (l + 1) e7)) := (FrT.refl 0 [27] w7).set HK7.out rfl (Nat.zero_le _) _
                  have e : pxCells (decUp 1 s W zs j (i + 1)) = pxCells (decUp 1 s W zs j i) ++ pxCell ⟨min x2 x3, min x1 x3, min x0 x3, x3⟩ := by
                    rw [HUP.out, HDP.out, pxCells_append]
                    simp [pxCells, clampP]
                  have el : (decUp 1 s W zs j (i + 1)).length = l + 1 := by rw [HUP.out, List.length_append, HL.out]; rfl
                  show World.ownsRow _ _ _ _ _ (decUp 1 s W zs j (i + 1)).length (pxCells (decUp 1 s W zs j (i + 1)))
                  rw [e, el]
                  exact f3.row HR7.out (.inl rfl)
                have HIn := Lib.hid hIn
                clear hIn hx5 HIj HK5 HO5 HT5 HW5 HB5
                go_wp2_with fail
                go_roundg (W - (i + 1))
                case measure => omega
                case rel => exact ⟨i + 1, by omega, by omega, by first | rfl | simp, HIn.out⟩
        · obtain rfl : W = i := by omega
          have HIn := Lib.hid hI
          clear hI HIj
          go_wp2_with fail
          go_roundg (H - (j + 1))
          case measure => omega
          case rel => exact ⟨j + 1, by omega, by omega, by first | rfl | simp, by rw [decUp_row]; exact HIn.out⟩
    · obtain rfl : H = j := by omega
      obtain ⟨hB, hzr, K10, ov, K12, ho⟩ := HIj.out
      obtain ⟨oa, oc, hoe, _, _⟩ := slice_lenB ho
      subst hoe
      obtain ⟨l, hll⟩ : ∃ l, (decUp 1 s W zs H 0).length = l := ⟨_, rfl⟩
      have hK12 := K12
      rw [hll] at hK12
      have ho' : wr.ownsRow w0.heap.size 43 4 (.slice oa l oc) l (pxCells (decUp 1 s W zs H 0)) := by unfold OwnP at ho; rw [hll] at ho; exact ho
      have HL := Lib.hid hll
      have HO := Lib.hid ho'
      have HK10 := Lib.hid K10
      obtain ⟨⟨e0, h0⟩, ⟨e1, h1⟩, e2, h2⟩ := hK12.c3
      obtain ⟨⟨d0, g0⟩, ⟨d1, g1⟩, d2, g2⟩ := K10.c3
      have hlt1 : w.heap.size < wr.heap.size := by omega
      clear ho ho' K10 K12 hK12 hll HIj
      go_wp2_with fail
      obtain ⟨KE, FE⟩ := HK10.out.set3 (.int .i64 W) (.int .i64 H) (.slice oa l oc)
      refine bodyPost_ret (results_ct rfl _ KE rfl Try.underlying27 rfl (by kernel_rfl)) rfl ?_
      refine ⟨_, rfl, by (with_reducible repeat (first | assumption | exact Below.refl _ _ | refine Below.setCell ?_ (by first | omega | (simp; done) | (simp; omega)) _ | refine Below.drew ?_ | refine bdrewN ?_ _ | refine Below.alloc ?_ (by first | omega | (simp; done) | (simp; omega)) _)), ?_⟩
      show World.ownsRow _ _ _ _ _ (decUp 1 s W zs H 0).length _
      rw [HL.out]
      exact ownsRow_mono (FE.row HO.out (.inl rfl)) (Nat.le_of_lt hz00)
set_option maxRecDepth 100000 in
set_option maxHeartbeats 4000000 in
theorem vdecode_ok2 (W H s : Nat) (A : Option Addr) (zs : List Int) (c : Nat) (w : World) (hW : 1 ≤ W ∧ W ≤ 256) (hH : 1 ≤ H ∧ H ≤ 256) (h1 : 4 * W ≤ s) (h2 : s % 4 = 0) (h3 : s ≤ zs.length / H)
    (hl : zs.length ≤ c ∧ c ≤ 9223372036854775807) (hr : Rd w .u8 A zs) (hz : ∀ z ∈ zs, 0 ≤ z ∧ z ≤ 255) :
    Calls Try.prog 15 #[.int .i64 2, .int .i64 W, .int .i64 H, .int .i64 s, .slice A zs.length c] w (DecOk w W H (decUp 2 s W zs H 0)) := by
  obtain ⟨n, hn⟩ : ∃ n, zs.length = n := ⟨_, rfl⟩
  have hs1 := fun W' => vsize_any W H W'
  rw [(szB_iff W).2 (by omega), (szB_iff H).2 (by omega)] at hs1
  rw [hn] at h3 hl ⊢
  have hsn : s ≤ n := Nat.le_trans h3 (Nat.div_le_self _ _)
  have HBD := Lib.hid (fun j i hj hi => dec_bound (j := j) (i := i) h1 h3 hH.1 hj hi)
  have g1 : ¬ (s : Int) < 4 * (W : Int) := by omega
  have g2 : ((s : Int) % 4 != 0) = false := by rw [bne_eq_false_iff_eq]; omega
  have g3 : ¬ (n : Int) / (H : Int) < (s : Int) := by omega
  have hq0 : 0 ≤ (n : Int) / (H : Int) := Int.ediv_nonneg (by omega) (by omega)
  have hq1 : (n : Int) / (H : Int) ≤ 9223372036854775807 := Int.le_trans (Int.ediv_le_self _ (by omega)) (by omega)
  have HS1 := Lib.hid hs1
  have HN := Lib.hid hn
  have HR := Lib.hid hr
  have HZ := Lib.hid hz
  clear hs1 hn hr hz h2 h3
  obtain ⟨hW1, hW2⟩ := hW
  obtain ⟨hH1, hH2⟩ := hH
  obtain ⟨hc1, hc2⟩ := hl
  have hH0 : ¬ (H : Int) = 0 := by omega
  go_enter Try.func15, Try.ntmps15
  go_wp2_with fail
  refine (HS1.out _).mono ?_; rintro e w' ⟨rfl, rfl⟩
  go_wp2_with fail
  generalize hWd : World.alloc (World.alloc _ _) _ = w0
  have hzW : w0.heap.size = w.heap.size + 1 + 1 := by subst hWd; simp
  have hB0 : Below w.heap.size w w0 := by subst hWd; (with_reducible repeat (first | assumption | exact Below.refl _ _ | refine Below.setCell ?_ (by first | omega | (simp; done) | (simp; omega)) _ | refine Below.drew ?_ | refine bdrewN ?_ _ | refine Below.alloc ?_ (by first | omega | (simp; done) | (simp; omega)) _))
  have K10 : Blk w0 w.heap.size 27 #[.int .i64 0, .int .i64 0, .slice none 0 0] := by subst hWd; (with_reducible repeat (first | assumption | (refine Blk.newAt ?_; first | rfl | (simp; done)) | refine Blk.alloc ?_ _ | refine Blk.drew ?_ | refine Blk.other ?_ (by simp) _))
  have K12 : Blk w0 (w.heap.size + 1) 27 #[.int .i64 W, .int .i64 H, .slice none 0 0] := by subst hWd; (with_reducible repeat (first | assumption | (refine Blk.newAt ?_; first | rfl | (simp; done)) | refine Blk.alloc ?_ _ | refine Blk.drew ?_ | refine Blk.other ?_ (by simp) _))
  have hz0 : w.heap.size + 1 < w0.heap.size := by omega
  have hz00 : w.heap.size < w0.heap.size := by omega
  have HI0 : DecI w W H w0.heap.size (decUp 2 s W zs 0 0) w0 := ⟨hB0, Nat.le_refl _, K10, .slice none 0 0, K12, World.ownsRow_nil _ _ _ _⟩
  have HI := Lib.hid HI0
  clear hWd hzW HS1 g1 g2 g3 hq0 hq1 hB0 K10 K12 HI0
  go_loopg [13] H (fun k s13 wr => ∃ j : Nat, k = H - j ∧ j ≤ H ∧ s13 = .int .i64 j ∧ DecI w W H w0.heap.size (decUp 2 s W zs j 0) wr)
  case atStart => exact ⟨0, by omega, by omega, by first | rfl | simp, HI.out⟩
  case round =>
    obtain ⟨j, hk, hj, rfl, hI⟩ := hrel
    have HIj := Lib.hid hI
    clear hI HI
    by_cases hlt : j < H
    · go_wp2_with fail
      go_loopg [14] W (fun k s14 wr => ∃ i : Nat, k = W - i ∧ i ≤ W ∧ s14 = .int .i64 i ∧ DecI w W H w0.heap.size (decUp 2 s W zs j i) wr)
      case atStart => exact ⟨0, by omega, by omega, by first | rfl | simp, HIj.out⟩
      case round =>
        obtain ⟨i, hk2, hi, rfl, hI⟩ := hrel
        by_cases hlti : i < W
        · obtain ⟨hB, hzr, K10, ov, K12, ho⟩ := hI
          have hkb := HBD.out j i hlt hlti
          obtain ⟨x0, hx0⟩ : ∃ x, zs[j * s + 4 * i]'(by rw [HN.out]; omega) = x := ⟨_, rfl⟩
          obtain ⟨x1, hx1⟩ : ∃ x, zs[j * s + 4 * i + 1]'(by rw [HN.out]; omega) = x := ⟨_, rfl⟩
          obtain ⟨x2, hx2⟩ : ∃ x, zs[j * s + 4 * i + 2]'(by rw [HN.out]; omega) = x := ⟨_, rfl⟩
          obtain ⟨x3, hx3⟩ : ∃ x, zs[j * s + 4 * i + 3]'(by rw [HN.out]; omega) = x := ⟨_, rfl⟩
          have r0 := HZ.out _ (List.getElem_mem (by rw [HN.out]; omega : j * s + 4 * i < zs.length))
          have r1 := HZ.out _ (List.getElem_mem (by rw [HN.out]; omega : j * s + 4 * i + 1 < zs.length))
          have r2 := HZ.out _ (List.getElem_mem (by rw [HN.out]; omega : j * s + 4 * i + 2 < zs.length))
          have r3 := HZ.out _ (List.getElem_mem (by rw [HN.out]; omega : j * s + 4 * i + 3 < zs.length))
          obtain ⟨b, off, hA, hbl, c0⟩ := HR.out (j * s + 4 * i) (by rw [HN.out]; omega)
          obtain ⟨b', off', hA1, _, c1⟩ := HR.out (j * s + 4 * i + 1) (by rw [HN.out]; omega)
          obtain ⟨b'', off'', hA2, _, c2⟩ := HR.out (j * s + 4 * i + 2) (by rw [HN.out]; omega)
          obtain ⟨b3, off3, hA3, _, c3⟩ := HR.out (j * s + 4 * i + 3) (by rw [HN.out]; omega)
          obtain ⟨rfl, rfl⟩ := addr_inj (hA.symm.trans hA1)
          obtain ⟨rfl, rfl⟩ := addr_inj (hA.symm.trans hA2)
          obtain ⟨rfl, rfl⟩ := addr_inj (hA.symm.trans hA3)
          rw [hx0] at c0 r0
          rw [hx1] at c1 r1
          rw [hx2] at c2 r2
          rw [hx3] at c3 r3
          have hdp : decP 2 zs (j * s + 4 * i) = clampP ⟨x2, x1, x0, 255⟩ := by rw [decP_at (by rw [HN.out]; omega), hx0, hx1, hx2]; first | rfl | (rw [hx3]; rfl)
          replace c0 := (hB.cell (p := ⟨b, _, none⟩) hbl).trans c0
          replace c1 := (hB.cell (p := ⟨b, _, none⟩) hbl).trans c1
          replace c2 := (hB.cell (p := ⟨b, _, none⟩) hbl).trans c2
          replace c3 := (hB.cell (p := ⟨b, _, none⟩) hbl).trans c3
          have hbr : b < wr.heap.size := Nat.lt_of_lt_of_le hbl hB.size
          have HDP := Lib.hid hdp
          have hup := decUp_one 2 s W zs j i
          have hul := decUp_length 2 s W zs j i
          have hrb := rows_bound (j := j) (i := i) hW2 hH2 hlt (by omega)
          rw [← hul] at hrb
          have HUP := Lib.hid hup
          subst hA
          clear hx0 hx1 hx2 hx3 hA1 hA2 hA3 hdp hup hul
          obtain ⟨m, hm⟩ : ∃ m : Nat, j * s + 4 * i = m := ⟨_, rfl⟩
          rw [hm] at c0 c1 c2 c3 hkb
          have em : (j : Int) * (s : Int) + 4 * (i : Int) = (m : Int) := by rw [← hm]; simp
          have hmx : 0 ≤ (j : Int) * (s : Int) ∧ (j : Int) * (s : Int) ≤ m := by constructor; exact Int.mul_nonneg (by omega) (by omega); omega
          have HM := Lib.hid hm
          have EM := Lib.hid em
          clear hm em
          go_upto_region 16 with fail
          go_cut [15] (fun s15 wx => s15 = .int .i64 m ∧ wr = wx)
          case first =>
            have em := EM.out
            have hmn : ¬ c = m := by omega
            go_wp2_with fail
            go_meet
            exact ⟨rfl, rfl⟩
          case rest =>
            obtain ⟨rfl, rfl⟩ := hcut
            have m0 : (0 : Int) ≤ (m : Int) := by omega
            have d0 : (m : Int) < (n : Int) := by omega
            have d1 : (m : Int) + 1 < (n : Int) := by omega
            have d2 : (m : Int) + 2 < (n : Int) := by omega
            have d3 : (m : Int) + 3 < (n : Int) := by omega
            have m1 : (0 : Int) ≤ (m : Int) + 1 := by omega
            have m2 : (0 : Int) ≤ (m : Int) + 2 := by omega
            have m3 : (0 : Int) ≤ (m : Int) + 3 := by omega
            have t1 : ((m : Int) + 1).toNat = m + 1 := by omega
            have t2 : ((m : Int) + 2).toNat = m + 2 := by omega
            have t3 : ((m : Int) + 3).toNat = m + 3 := by omega
            have u1 : IntKind.i64.wrap ((m : Int) + 1) = (m : Int) + 1 := Go.IntWalk.i64_in _ (by omega)
            have u2 : IntKind.i64.wrap ((m : Int) + 2) = (m : Int) + 2 := Go.IntWalk.i64_in _ (by omega)
            have u3 : IntKind.i64.wrap ((m : Int) + 3) = (m : Int) + 3 := Go.IntWalk.i64_in _ (by omega)
            have nb : b ≠ wr.heap.size := Nat.ne_of_lt hbr
            have nb' : wr.heap.size ≠ b := Nat.ne_of_gt hbr
            clear hmx
            go_upto_region 17 with fail
            go_cut [16] (fun s16 wx => s16 = .pointer (some ⟨wr.heap.size, 0, none⟩) ∧ (wr.alloc (.cells #[.int .u8 x2, .int .u8 x1, .int .u8 x0, .int .u8 x3] 43)).drew = wx)
            case first =>
              go_region_held3 (fun w' => w'.cell? ⟨b, off + m, none⟩ = some (.int .u8 x0) ∧ w'.cell? ⟨b, off + (m + 1), none⟩ = some (.int .u8 x1) ∧ w'.cell? ⟨b, off + (m + 2), none⟩ = some (.int .u8 x2) ∧ w'.cell? ⟨b, off + (m + 3), none⟩ = some (.int .u8 x3)) (go_keep) (fail)
              go_wp2_with fail
              go_meet
              exact ⟨rfl, rfl⟩
            case rest =>
              obtain ⟨rfl, rfl⟩ := hcut
              obtain ⟨oa, oc, hoe, _, _⟩ := slice_lenB ho
              subst hoe
              obtain ⟨l, hll⟩ : ∃ l, (decUp 2 s W zs j i).length = l := ⟨_, rfl⟩
              rw [hll] at hrb K12
              have ho' : wr.ownsRow w0.heap.size 43 4 (.slice oa l oc) l (pxCells (decUp 2 s W zs j i)) := by unfold OwnP at ho; rw [hll] at ho; exact ho
              have HL := Lib.hid hll
              have HO := Lib.hid ho'
              have HK10 := Lib.hid K10
              have HK12 := Lib.hid K12
              obtain ⟨⟨e0, h0⟩, ⟨e1, h1⟩, e2, h2⟩ := K12.c3
              clear ho ho' K10 K12 hll c0 c1 c2 c3 d0 d1 d2 d3 m0 m1 m2 m3 t1 t2 t3 u1 u2 u3
              go_upto_region 20 with fail
              have hB5 : Below wr.heap.size wr (wr.alloc (.cells #[.int .u8 x2, .int .u8 x1, .int .u8 x0, .int .u8 255] 43)).drew := ((Below.refl _ _).alloc (Nat.le_refl _) _).drew
              have K16 : Blk (wr.alloc (.cells #[.int .u8 x2, .int .u8 x1, .int .u8 x0, .int .u8 255] 43)).drew wr.heap.size 43 #[.int .u8 x2, .int .u8 x1, .int .u8 x0, .int .u8 255] := (Blk.new _ _ _).drew
              generalize (wr.alloc (.cells #[.int .u8 x2, .int .u8 x1, .int .u8 x0, .int .u8 255] 43)).drew = w5 at *
              have HB5 := Lib.hid hB5
              have HK5 := Lib.hid (Blk.below hB5 HK12.out)
              have HO5 := Lib.hid ((FrT.ofBelow hB5 0 []).row HO.out (.inl rfl))
              have HT5 := Lib.hid (Blk.below hB5 HK10.out)
              have HW5 := Lib.hid (bon hB hB.size hB5)
              obtain ⟨⟨p0, q0⟩, ⟨p1, q1⟩, p2, q2⟩ := HK5.out.c3
              obtain ⟨⟨y0, _⟩, ⟨y1, _⟩, ⟨y2, _⟩, y3, _⟩ := K16.c4
              have hz5 := hB5.size
              have hb5 : w0.heap.size ≤ w5.heap.size := by omega
              have hA1 : l + 1 ≤ 1000000 := by omega
              clear e0 h0 e1 h1 e2 h2 hB5 K16 hB hzr hkb r0 r1 r2 r3 hbl hbr nb nb'
              go_region_law (first
                | (go_simp; go_at_call 42; refine (r8clamp_any _ _ _ _ _).mono ?_; rintro e w6 ⟨rfl, hb6⟩; have hb6' : Below w5.heap.size w5 w6 := bon (by (with_reducible repeat (first | assumption | exact Below.refl _ _ | refine Below.setCell ?_ (by first | omega | (simp; done) | (simp; omega)) _ | refine Below.drew ?_ | refine bdrewN ?_ _ | refine Below.alloc ?_ (by first | omega | (simp; done) | (simp; omega)) _))) (by simp) hb6; have hz6 := hb6'.size; obtain ⟨⟨p0, q0⟩, ⟨p1, q1⟩, p2, q2⟩ := (Blk.below hb6' HK5.out).c3; have hb6z : w0.heap.size ≤ w6.heap.size := Nat.le_trans hb5 hz6; have hp6 : w.heap.size + 1 < w6.heap.size := Nat.lt_of_lt_of_le hz0 hb6z; have HB6 := Lib.hid hb6'; clear hb6 hb6')
                | (refine step_app _ [43] rfl el_px (.tmp 89) (.tmp 92) rfl w0.heap.size (.slice oa l oc) l (pxCells (decUp 2 s W zs j i)) rfl (((FrT.ofBelow HB6.out 0 []).row HO5.out (.inl rfl)).alloc _) (.slice (some ⟨w6.heap.size, 0, none⟩) 1 1) 1 (pxCell ⟨min x2 255, min x1 255, min x0 255, 255⟩) rfl (Src.blk (cs := (pxCell ⟨min x2 255, min x1 255, min x0 255, 255⟩).toArray) (Blk.newAt rfl) rfl (by simp [pxCell, Value.oneCell']) 1) hA1 (by decide) (by simp; exact Nat.le_succ_of_le hb6z) rfl ?_; intro v7 w7 hr7 hf7; have hx7 : Below w0.heap.size w6 w7 := ((Below.refl _ _).alloc hb6z _).trans (hf7.toBelow (by simp; exact Nat.le_succ_of_le hb6z)); have K7 := hf7.blk ((Blk.below HB6.out HK5.out).alloc _) (.inr rfl); obtain ⟨⟨p0, q0⟩, ⟨p1, q1⟩, p2, q2⟩ := K7.c3; obtain ⟨a7, e7, hv7, _, _⟩ := slice_lenB hr7; subst hv7; have HR7 := Lib.hid hr7; have HX7 := Lib.hid hx7; have HK7 := Lib.hid K7; have HF7 := Lib.hid hf7; clear hr7 hx7 K7 hf7))
              all_goals
                have hx5 : Below w0.heap.size w5 w7 := (HB6.out.mono hb5).trans HX7.out
                have hIn : DecI w W H w0.heap.size (decUp 2 s W zs j (i + 1)) (w7.setCell ⟨w.heap.size + 1, 2, none⟩ (.slice a7 (l + 1) e7)) := by
                  refine ⟨((HW5.out.trans (hx5.mono (by omega))).setCell (by simp) _), (by simp [World.setCell]; exact Nat.le_trans hb5 hx5.size), (HF7.out.blk ((Blk.below HB6.out HT5.out).alloc _) (.inr rfl)).other (by simp) _, _, HK7.out.set 2 _, ?_⟩
                  have f3 : FrT 0 [27] w7 (w7.setCell ⟨w.heap.size + 1, 2, none⟩ (.slice a7 (l + 1) e7)) := (FrT.refl 0 [27] w7).set HK7.out rfl (Nat.zero_le _) _
                  have e : pxCells (decUp 2 s W zs j (i + 1)) = pxCells (decUp 2 s W zs j i) ++ pxCell ⟨min x2 255, min x1 255, min x0 255, 255⟩ := by
                    rw [HUP.out, HDP.out, pxCells_append]
                    simp [pxCells, clampP]
                  have el : (decUp 2 s W zs j (i + 1)).length = l + 1 := by rw [HUP.out, List.length_append, HL.out]; rfl
                  show World.ownsRow _ _ _ _ _ (decUp 2 s W zs j (i + 1)).length (pxCells (decUp 2 s W zs j (i + 1)))
                  rw [e, el]
                  exact f3.row HR7.out (.inl rfl)
                have HIn := Lib.hid hIn
                clear hIn hx5 HIj HK5 HO5 HT5 HW5 HB5
                go_wp2_with fail
                go_roundg (W - (i + 1))
                case measure => omega
                case rel => exact ⟨i + 1, by omega, by omega, by first | rfl | simp, HIn.out⟩
        · obtain rfl : W = i := by omega
          have HIn := Lib.hid hI
          clear hI HIj
          go_wp2_with fail
          go_roundg (H - (j + 1))
          case measure => omega
          case rel => exact ⟨j + 1, by omega, by omega, by first | rfl | simp, by rw [decUp_row]; exact HIn.out⟩
    · obtain rfl : H = j := by omega
      obtain ⟨hB, hzr, K10, ov, K12, ho⟩ := HIj.out
      obtain ⟨oa, oc, hoe, _, _⟩ := slice_lenB ho
      subst hoe
      obtain ⟨l, hll⟩ : ∃ l, (decUp 2 s W zs H 0).length = l := ⟨_, rfl⟩
      have hK12 := K12
      rw [hll] at hK12
      have ho' : wr.ownsRow w0.heap.size 43 4 (.slice oa l oc) l (pxCells (decUp 2 s W zs H 0)) := by unfold OwnP at ho; rw [hll] at ho; exact ho
      have HL := Lib.hid hll
      have HO := Lib.hid ho'
      have HK10 := Lib.hid K10
      obtain ⟨⟨e0, h0⟩, ⟨e1, h1⟩, e2, h2⟩ := hK12.c3
      obtain ⟨⟨d0, g0⟩, ⟨d1, g1⟩, d2, g2⟩ := K10.c3
      have hlt1 : w.heap.size < wr.heap.size := by omega
      clear ho ho' K10 K12 hK12 hll HIj
      go_wp2_with fail
      obtain ⟨KE, FE⟩ := HK10.out.set3 (.int .i64 W) (.int .i64 H) (.slice oa l oc)
      refine bodyPost_ret (results_ct rfl _ KE rfl Try.underlying27 rfl (by kernel_rfl)) rfl ?_
      refine ⟨_, rfl, by (with_reducible repeat (first | assumption | exact Below.refl _ _ | refine Below.setCell ?_ (by first | omega | (simp; done) | (simp; omega)) _ | refine Below.drew ?_ | refine bdrewN ?_ _ | refine Below.alloc ?_ (by first | omega | (simp; done) | (simp; omega)) _)), ?_⟩
      show World.ownsRow _ _ _ _ _ (decUp 2 s W zs H 0).length _
      rw [HL.out]
      exact ownsRow_mono (FE.row HO.out (.inl rfl)) (Nat.le_of_lt hz00)
end Go.Proofs.Ytgikmcgoaihggaa
