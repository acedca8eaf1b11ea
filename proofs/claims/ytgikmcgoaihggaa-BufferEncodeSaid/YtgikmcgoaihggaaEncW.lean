/- BufferEncode: the walk. -/
import Derived.Test.YtgikmcgoaihggaaEnc
import Derived.Test.YtgikmcgoaihggaaBEx
import Derived.Test.YtgikmcgoaihggaaBEq
import Derived.Test.YtgikmcgoaihggaaOpenB
import Derived.Deep.RegionHeld3
set_option linter.unusedVariables false
set_option linter.unusedSimpArgs false
namespace Go.Proofs.Ytgikmcgoaihggaa
open Go.RowKit Go.Sort
attribute [local go_sem ↓] Go.wp_at_zero Go.wp_at_succ

set_option maxRecDepth 100000 in
set_option maxHeartbeats 2000000 in
theorem bufferencode_any (bw bh : Int) (A : Option Addr) (ps : List Px) (c : Nat) (w : World) (hl : ps.length ≤ c ∧ c ≤ 9223372036854775807) (hr : Rdp w A ps) (hok : PxsOk ps) :
    Calls Try.prog 5 #[bufv bw bh (.slice A ps.length c)] w fun e w' => e = .returned (.bool true) ∧ Below w.heap.size w w' := by
  have m1 : ps.length ≤ 9223372036854775807 := by omega
  have hS := fun W => lbsmall_any bw bh A ps.length c W m1
  have hE1 := fun W (hb : Below w.heap.size w W) => bencode_any bw bh A ps c W (hr.below hb) m1
  have hE2 := fun W (hb : Below w.heap.size w W) => vencode_any bw bh A ps c W (hr.below hb) m1
  have hV := fun W (hb : Below w.heap.size w W) => vvalid_any bw bh A ps c W (hr.below hb) m1
  have HR := Lib.hid hr
  obtain ⟨n, hn⟩ : ∃ n, ps.length = n := ⟨_, rfl⟩
  rw [hn] at hS hE1 hE2 hV m1 hl ⊢
  have HN := Lib.hid hn
  by_cases s1 : n ≤ 400
  · rw [decide_eq_true s1] at hS
    have hzl : (encB bw bh ps).length ≤ 1600 := by
      unfold encB
      split
      · rw [encL_length, hn]; omega
      · simp
    have hzr : ∀ z ∈ encB bw bh ps, 0 ≤ z ∧ z ≤ 255 := by
      unfold encB
      split
      · intro z hz
        unfold encL at hz
        obtain ⟨p, hp, hz⟩ := List.mem_flatMap.1 hz
        obtain ⟨q0, q1, q2, q3⟩ := hok p hp
        simp only [encP, List.mem_cons, List.not_mem_nil, or_false] at hz
        rcases hz with rfl | rfl | rfl | rfl <;> assumption
      · intro z hz; cases hz
    have hbad : bufB bw bh ps = false → encB bw bh ps = [] := fun k => by unfold encB; rw [k]; rfl
    have hgood : bufB bw bh ps = true → decE 1 bw bh (4 * bw) (encB bw bh ps).length = 0 ∧ decB 1 bw bh (4 * bw) (encB bw bh ps) = (bw, bh, ps) := by
      intro k
      have hall := ((bufB_iff bw bh ps).1 k).2.2.2
      have e1 : encB bw bh ps = encL ps := by unfold encB; rw [if_pos k]
      rw [e1]
      obtain ⟨W, H, rfl, rfl, hW, hH, hlen⟩ := bufB_nat k
      exact dec_enc hW hH hlen hall
    have hsz : bufB bw bh ps = true → (1 ≤ bw ∧ bw ≤ 256) := fun k => (bufB_small k).1
    generalize hzs : encB bw bh ps = zs at *
    clear hzs
    obtain ⟨z, hz⟩ : ∃ z, zs.length = z := ⟨_, rfl⟩
    have HZ := Lib.hid hz
    have HZR := Lib.hid hzr
    have HBAD := Lib.hid hbad
    have HGOOD := Lib.hid hgood
    have HSZ := Lib.hid hsz
    have HS := Lib.hid hS
    have HE1 := Lib.hid hE1
    have HE2 := Lib.hid hE2
    have HV := Lib.hid hV
    rw [hz] at hzl
    clear hS hE1 hE2 hV hr hok hn hz hzr hbad hgood hsz
    go_enter Try.func5, Try.ntmps5
    go_wp2_with fail
    refine (HS.out _).mono ?_; rintro e w2 ⟨rfl, hb_w2⟩
    have hB2 : Below w.heap.size w w2 := bon (by (with_reducible repeat (first | assumption | exact Below.refl _ _ | refine Below.setCell ?_ (by first | omega | (simp; done) | (simp; omega)) _ | refine Below.drew ?_ | refine bdrewN ?_ _ | refine Below.alloc ?_ (by first | omega | (simp; done) | (simp; omega)) _))) (by simp) hb_w2
    have K1 : Blk w2 (w.heap.size) 27 #[.int .i64 bw, .int .i64 bh, .slice A n c] := Blk.below hb_w2 (by (with_reducible repeat (first | assumption | (refine Blk.newAt ?_; first | rfl | (simp; done)) | refine Blk.alloc ?_ _ | refine Blk.drew ?_ | refine Blk.other ?_ (by simp) _)))
    obtain ⟨⟨u0, _⟩, ⟨u1, _⟩, u2, _⟩ := K1.c3
    have HK1 := Lib.hid K1
    have hz2 := hB2.size
    have hwl : w.heap.size < w2.heap.size := K1.lt
    clear hb_w2 K1
    go_upto_region 3 with fail
    go_region_held3 (fun w' => w'.cell? ⟨w.heap.size, 0, none⟩ = some (.int .i64 bw) ∧ w'.cell? ⟨w.heap.size, 1, none⟩ = some (.int .i64 bh) ∧ w'.cell? ⟨w.heap.size, 2, none⟩ = some (.slice A n c)) (go_keep)
      (first
        | (go_at_call 23; refine (HE1.out _ (by (with_reducible repeat (first | assumption | exact Below.refl _ _ | refine Below.setCell ?_ (by first | omega | (simp; done) | (simp; omega)) _ | refine Below.drew ?_ | refine bdrewN ?_ _ | refine Below.alloc ?_ (by first | omega | (simp; done) | (simp; omega)) _)))).mono ?_; rintro e w3 ⟨v3, rfl, hb3, ho3⟩; have hx3 : Below w2.heap.size w2 w3 := bon (by (with_reducible repeat (first | assumption | exact Below.refl _ _ | refine Below.setCell ?_ (by first | omega | (simp; done) | (simp; omega)) _ | refine Below.drew ?_ | refine bdrewN ?_ _ | refine Below.alloc ?_ (by first | omega | (simp; done) | (simp; omega)) _))) (by simp) hb3; have t0 := (hx3.cell (p := ⟨w.heap.size, 0, none⟩) hwl).trans u0; have t1 := (hx3.cell (p := ⟨w.heap.size, 1, none⟩) hwl).trans u1; have t2 := (hx3.cell (p := ⟨w.heap.size, 2, none⟩) hwl).trans u2; obtain ⟨a3, k3, hv3, hq3, hk3, hr3⟩ := ho3.form; subst hv3; have HQ3 := Lib.hid hq3; have HR3 := Lib.hid hr3; have HX3 := Lib.hid hx3; have hB3 := bon hB2 hB2.size hx3; clear hb3 ho3 hr3 hx3)
        | (go_at_call 24; refine (HE2.out _ (by (with_reducible repeat (first | assumption | exact Below.refl _ _ | refine Below.setCell ?_ (by first | omega | (simp; done) | (simp; omega)) _ | refine Below.drew ?_ | refine bdrewN ?_ _ | refine Below.alloc ?_ (by first | omega | (simp; done) | (simp; omega)) _)))).mono ?_; rintro e w4 ⟨v4, rfl, hb4, ho4⟩; have hx4 : Below w3.heap.size w3 w4 := bon (by (with_reducible repeat (first | assumption | exact Below.refl _ _ | refine Below.setCell ?_ (by first | omega | (simp; done) | (simp; omega)) _ | refine Below.drew ?_ | refine bdrewN ?_ _ | refine Below.alloc ?_ (by first | omega | (simp; done) | (simp; omega)) _))) (by simp) hb4; have hx24 : Below w2.heap.size w2 w4 := bon HX3.out HX3.out.size hx4; have t0 := (hx24.cell (p := ⟨w.heap.size, 0, none⟩) hwl).trans u0; have t1 := (hx24.cell (p := ⟨w.heap.size, 1, none⟩) hwl).trans u1; have t2 := (hx24.cell (p := ⟨w.heap.size, 2, none⟩) hwl).trans u2; obtain ⟨a4, k4, hv4, _, hk4, hr4⟩ := ho4.form; subst hv4; have HR4 := Lib.hid hr4; have HX4 := Lib.hid hx4; have HX24 := Lib.hid hx24; have hB4 := bon hB3 hB3.size hx4; clear hb4 ho4 hr4 hx4 hx24))
    have HR3' := Lib.hid (HR3.out.below HX4.out)
    have HK4 := Lib.hid (Blk.below HX24.out HK1.out)
    rw [HZ.out]
    have HB4 := Lib.hid hB4
    clear u0 u1 u2 t0 t1 t2 HR3 HX3 HX4 hB2 hB3
    go_wp2_with fail
    go_loopg [5] z (fun k s5 wr => ∃ j : Nat, k = z - j ∧ j ≤ z ∧ s5 = .int .i64 j ∧ Below w4.heap.size w4 wr)
    case atStart => exact ⟨0, by omega, by omega, by first | rfl | simp, Below.refl _ _⟩
    case round =>
      obtain ⟨j, hk, hj, rfl, hBz⟩ := hrel
      by_cases hlt : j < z
      · obtain ⟨b, o, hA, hbl, hc⟩ := HR3'.out j (by rw [HZ.out]; omega)
        obtain ⟨b', o', hA', hbl', hc'⟩ := HR4.out j (by rw [HZ.out]; omega)
        obtain ⟨x, hx⟩ : ∃ x, zs[j]'(by rw [HZ.out]; omega) = x := ⟨_, rfl⟩
        rw [hx] at hc hc'
        replace hc := (hBz.cell (p := ⟨b, o + j, none⟩) hbl).trans hc
        replace hc' := (hBz.cell (p := ⟨b', o' + j, none⟩) hbl').trans hc'
        clear hx
        subst hA
        subst hA'
        go_wp2_with fail
        go_quiet (fail)
        go_wp2_with fail
        go_roundg (z - (j + 1))
        case measure => omega
        case rel => exact ⟨j + 1, by omega, by omega, by first | rfl | simp, bdrewN hBz _⟩
      · obtain rfl : z = j := by omega
        have hB5 := bon HB4.out HB4.out.size hBz
        obtain ⟨⟨u0, _⟩, ⟨u1, _⟩, u2, _⟩ := (Blk.below hBz HK4.out).c3
        have HK5 := Lib.hid (Blk.below hBz HK4.out)
        have HR5 := Lib.hid (HR3'.out.below hBz)
        clear hBz
        go_wp2_with fail
        cases kb : bufB bw bh ps with
        | false =>
          have hz0 := HBAD.out kb
          have hzz : z = 0 := by rw [← HZ.out, hz0]; rfl
          have hv := HV.out _ hB5
          rw [kb] at hv
          refine hv.mono ?_; rintro e w6 ⟨rfl, hb6⟩
          have hB6 := bon hB5 hB5.size hb6
          subst hzz
          clear hb6 hv hz0 kb
          go_wp2_with fail
          refine (lbex_true _).mono ?_; rintro e w7 ⟨rfl, hb7⟩
          have hB7 := bon hB6 hB6.size hb7
          clear hb7
          go_wp2_with fail
          go_ret
          exact ⟨rfl, hB7⟩
        | true =>
          obtain ⟨g1, g2⟩ := HGOOD.out kb
          have hw := HSZ.out kb
          have hv := HV.out _ hB5
          rw [kb] at hv
          refine hv.mono ?_; rintro e w6 ⟨rfl, hb6⟩
          have hB6 := bon hB5 hB5.size hb6
          obtain ⟨⟨u0, _⟩, ⟨u1, _⟩, u2, _⟩ := (Blk.below hb6 HK5.out).c3
          have HK6 := Lib.hid (Blk.below hb6 HK5.out)
          have HR6 := Lib.hid (HR5.out.below hb6)
          have hD := bdecode_any 1 bw bh (4 * bw) a3 zs k3 w6 (by omega) ⟨HQ3.out, hk3⟩ HR6.out HZR.out
          rw [g1, g2, HZ.out] at hD
          have HD := Lib.hid hD
          clear hb6 hv kb g1 g2 hD
          go_wp2_with fail
          refine HD.out.mono ?_; rintro e w7 ⟨v7, rfl, hb7, ho7⟩
          have hB7 := bon hB6 hB6.size hb7
          obtain ⟨⟨u0, _⟩, ⟨u1, _⟩, u2, _⟩ := (Blk.below hb7 HK6.out).c3
          obtain ⟨a7, k7, hv7, _, hk7, hr7⟩ := ho7.form
          subst hv7
          have HR7 := Lib.hid hr7
          have hwl7 : w.heap.size < w7.heap.size := (Blk.below hb7 HK6.out).lt
          rw [HN.out]
          clear hb7 ho7 hr7
          go_wp2_with fail
          have hW7 : Below w7.heap.size w7 (w7.alloc (.cells #[.int .i64 bw, .int .i64 bh, .slice a7 n k7] 27)) := (Below.refl _ _).alloc (Nat.le_refl _) _
          have hB8 : Below w.heap.size w (w7.alloc (.cells #[.int .i64 bw, .int .i64 bh, .slice a7 n k7] 27)) := bon hB7 hB7.size hW7
          have hEq := vequal_any bw bh A ps c bw bh a7 ps k7 _ (HR.out.below hB8) (HR7.out.below hW7) (by rw [HN.out]; omega) (by rw [HN.out]; omega)
          rw [eqB_self, HN.out] at hEq
          refine hEq.mono ?_; rintro e w8 ⟨rfl, hb8⟩
          have hB9 := bon hB8 hB8.size hb8
          clear hb8 hEq hW7 hB8
          go_wp2_with fail
          refine (lbex_true _).mono ?_; rintro e w10 ⟨rfl, hb10⟩
          have hB10 := bon hB9 hB9.size hb10
          clear hb10
          go_wp2_with fail
          go_ret
          exact ⟨rfl, hB10⟩
  · rw [decide_eq_false s1] at hS
    have HS := Lib.hid hS
    clear hS hE1 hE2 hV hr hok
    go_enter Try.func5, Try.ntmps5
    go_wp2_with fail
    refine (HS.out _).mono ?_; rintro e w3 ⟨rfl, hb_w3⟩
    have hB3 : Below w.heap.size w w3 := bon (by (with_reducible repeat (first | assumption | exact Below.refl _ _ | refine Below.setCell ?_ (by first | omega | (simp; done) | (simp; omega)) _ | refine Below.drew ?_ | refine bdrewN ?_ _ | refine Below.alloc ?_ (by first | omega | (simp; done) | (simp; omega)) _))) (by simp) hb_w3
    clear hb_w3
    go_wp2_with fail
    refine (lbex_true _).mono ?_; rintro e w10 ⟨rfl, hb10⟩
    have hB10 := bon hB3 hB3.size hb10
    clear hb10
    go_wp2_with fail
    go_ret
    exact ⟨rfl, hB10⟩
end Go.Proofs.Ytgikmcgoaihggaa
