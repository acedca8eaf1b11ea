/- PresentPlays: the walk over no clock. -/
import Derived.Test.YtijfldgkmbhdoaaPlayW
set_option linter.unusedVariables false
set_option linter.unusedSimpArgs false
namespace Go.Proofs.Ytijfldgkmbhdoaa
open Go.RowKit
attribute [local go_sem ↓] Go.wp_at_zero Go.wp_at_succ
attribute [local go_sem] calm calmAt calmUpon

theorem asB {P : Program} {f : FuncId} {args : Array Value} {w : World} {v : Value} (h : Calls P f args w fun e w' => e = .returned v ∧ w = w') : Calls P f args w fun e w' => e = .returned v ∧ Below w.heap.size w w' :=
  h.mono fun _ _ ⟨h1, h2⟩ => ⟨h1, h2 ▸ Below.refl _ _⟩
/-- The reference's clock where there is none. -/
def NilR (w : World) (b7 : Nat) (wr : World) : Prop :=
  Below w.heap.size w wr ∧ ∃ ad c, Blk wr b7 57 #[.bool false, .int .i64 0, .int .i64 0, .slice ad 0 c] ∧ RQ wr ad 0 c []
def MidN (wr : World) (g : Nat) (wx : World) : Prop :=
  wr.heap.size ≤ g ∧ Below wr.heap.size wr wx ∧ ∃ ad c, Blk wx g 57 #[.bool false, .int .i64 0, .int .i64 0, .slice ad 0 c] ∧ RQ wx ad 0 c []
theorem NilR.below {w : World} {b7 : Nat} {wr wx : World} (h : NilR w b7 wr) (hb : Below wr.heap.size wr wx) : NilR w b7 wx := by
  obtain ⟨h1, ad, c, h5, h6⟩ := h
  exact ⟨bon h1 h1.size hb, ad, c, Blk.below hb h5, h6.below hb⟩
theorem midN_new {wr W w6 : World} {ad : Option Addr} {c : Nat} (h1 : Below wr.heap.size wr W) (hb : Below W.heap.size W w6) (hq : RQ w6 ad 0 c []) : MidN wr w6.heap.size (w6.alloc (.cells #[.bool false, .int .i64 0, .int .i64 0, .slice ad 0 c] 57)) := by
  have h2 : Below wr.heap.size wr w6 := bon h1 h1.size hb
  exact ⟨h2.size, h2.alloc h2.size _, ad, c, Blk.new _ _ _, hq.below ((Below.refl _ _).alloc (Nat.le_refl _) _)⟩
theorem midN_frame {wr W w6 : World} {ad : Option Addr} {n c : Nat} (hk : Blk W wr.heap.size 57 #[.bool false, .int .i64 0, .int .i64 0, .slice none 0 0]) (hb : Below W.heap.size W w6) :
    FrT 0 [57] w6 ((((w6.setCell ⟨wr.heap.size, 0, none⟩ (.bool false)).setCell ⟨wr.heap.size, 1, none⟩ (.int .i64 0)).setCell ⟨wr.heap.size, 2, none⟩ (.int .i64 0)).setCell ⟨wr.heap.size, 3, none⟩ (.slice ad n c)) :=
  ((Blk.below hb hk).set4 (.bool false) (.int .i64 0) (.int .i64 0) (.slice ad n c)).2
theorem midN_old {wr W w6 : World} {ad : Option Addr} {c : Nat} (h1 : Below wr.heap.size wr W) (hk : Blk W wr.heap.size 57 #[.bool false, .int .i64 0, .int .i64 0, .slice none 0 0]) (hb : Below W.heap.size W w6) (hq : RQ w6 ad 0 c []) :
    MidN wr wr.heap.size ((((w6.setCell ⟨wr.heap.size, 0, none⟩ (.bool false)).setCell ⟨wr.heap.size, 1, none⟩ (.int .i64 0)).setCell ⟨wr.heap.size, 2, none⟩ (.int .i64 0)).setCell ⟨wr.heap.size, 3, none⟩ (.slice ad 0 c)) := by
  have h2 : Below wr.heap.size wr w6 := bon h1 h1.size hb
  obtain ⟨KE, FE⟩ := (Blk.below hb hk).set4 (.bool false) (.int .i64 0) (.int .i64 0) (.slice ad 0 c)
  exact ⟨Nat.le_refl _, (((h2.setCell (Nat.le_refl _) _).setCell (Nat.le_refl _) _).setCell (Nat.le_refl _) _).setCell (Nat.le_refl _) _, ad, c, KE, hq.carry FE ⟨rfl, rfl⟩⟩
theorem set_endN {w wr wc : World} {b7 : Nat} {ad ad' : Option Addr} {c c' : Nat} (hb : Below w.heap.size w wr) (k7 : Blk wr b7 57 #[.bool false, .int .i64 0, .int .i64 0, .slice ad 0 c])
    (hw7 : w.heap.size ≤ b7) (hbc : Below wr.heap.size wr wc) (q : RQ wc ad' 0 c' []) :
    NilR w b7 ((((wc.setCell ⟨b7, 0, none⟩ (.bool false)).setCell ⟨b7, 1, none⟩ (.int .i64 0)).setCell ⟨b7, 2, none⟩ (.int .i64 0)).setCell ⟨b7, 3, none⟩ (.slice ad' 0 c')) := by
  obtain ⟨KE, FE⟩ := (Blk.below hbc k7).set4 (.bool false) (.int .i64 0) (.int .i64 0) (.slice ad' 0 c')
  have h2 : Below w.heap.size w wc := bon hb hb.size hbc
  exact ⟨(((h2.setCell hw7 _).setCell hw7 _).setCell hw7 _).setCell hw7 _, ad', c', KE, q.carry FE ⟨rfl, rfl⟩⟩
theorem rdiscard_nil (s : Int) (ad : Option Addr) (c : Nat) (w : World) (k : RQ w ad 0 c []) :
    Calls Try.prog 28 #[rclk false 0 0 (.slice ad 0 c), .int .i64 s] w fun e w' => ∃ ad' c' a' e', e = .returned (.tuple #[rclk false 0 0 (.slice ad' 0 c'), .slice a' 0 e']) ∧ Below w.heap.size w w' ∧ RQ w' ad' 0 c' [] := by
  refine (rdiscard_any false 0 0 s ad 0 c [] w k).mono ?_
  rintro e w' ⟨ad', n', c', v, rfl, hb, hq, hu⟩
  have hn : n' = 0 := hq.1
  subst hn
  obtain ⟨a, e', hv, _, _⟩ := slice_len hu.row
  subst hv
  exact ⟨ad', c', a, e', rfl, hb, hq⟩
set_option maxRecDepth 100000 in
set_option maxHeartbeats 4000000 in
theorem presentplays_bad (nm : ByteArray) (wd ht rf sc tr x y er : Int) (A : Option Addr) (l : List OpC) (c : Nat) (w : World) (hsz : nm.size ≤ 9223372036854775807) (h : chkIs nm wd ht rf sc tr x y er) (he : er ≠ 0) (hl : l.length ≤ 9223372036854775807)
    (hr : Ops w A l) :
    Calls Try.prog 8 #[outv nm wd ht rf sc tr x y, .slice A l.length c] w fun e w' => e = .returned (.bool true) ∧ Below w.heap.size w w' := by
  have her := chk_rng h
  obtain ⟨n, hzn⟩ : ∃ n, l.length = n := ⟨_, rfl⟩
  have hH := lheavy_any A l c _ (hr.below ((Below.refl _ _).alloc (Nat.le_refl _) (.cells #[.string nm, .int .i64 wd, .int .i64 ht, .int .i64 rf, .int .i64 sc, .int .i64 tr, .int .i64 x, .int .i64 y] 30))) hl
  rw [hzn] at hl hH ⊢
  have HZN := Lib.hid hzn
  have HRD := Lib.hid hr
  have HH := Lib.hid hH
  clear hzn hr hH
  go_enter Try.func8, Try.ntmps8
  go_wp2_with fail
  refine HH.out.mono ?_; rintro e wh ⟨b, rfl, rfl⟩
  cases b with
  | true =>
    go_wp2_with fail
    refine (ex30_true _).mono ?_; rintro e w3 ⟨rfl, hb_w3⟩
    have hB3 : Below w.heap.size w w3 := bon (by (with_reducible repeat (first | assumption | exact Below.refl _ _ | refine Below.setCell ?_ (by first | omega | (simp; done) | (simp; omega)) _ | refine Below.drew ?_ | refine bdrewN ?_ _ | refine Below.alloc ?_ (by first | omega | (simp; done) | (simp; omega)) _))) (by simp) hb_w3
    clear hb_w3
    go_wp2_with fail
    go_ret
    exact ⟨rfl, hB3⟩
  | false =>
    go_wp2_with fail
    refine (pnew_bad _ _ _ _ _ _ _ _ _ _ hsz h he).mono ?_; rintro e w1 ⟨rfl, hb_w1⟩
    have hB1 : Below w.heap.size w w1 := bon (by (with_reducible repeat (first | assumption | exact Below.refl _ _ | refine Below.setCell ?_ (by first | omega | (simp; done) | (simp; omega)) _ | refine Below.drew ?_ | refine bdrewN ?_ _ | refine Below.alloc ?_ (by first | omega | (simp; done) | (simp; omega)) _))) (by simp) hb_w1
    have K1 : Blk w1 (w.heap.size) 30 #[.string nm, .int .i64 wd, .int .i64 ht, .int .i64 rf, .int .i64 sc, .int .i64 tr, .int .i64 x, .int .i64 y] := Blk.below hb_w1 (by (with_reducible repeat (first | assumption | (refine Blk.newAt ?_; first | rfl | (simp; done)) | refine Blk.alloc ?_ _ | refine Blk.drew ?_ | refine Blk.other ?_ (by simp) _)))
    obtain ⟨c0, c1, c2, c3, c4, c5, c6, c7⟩ := out_cells K1
    clear hb_w1 K1
    go_wp2_with fail
    refine (rnew_bad _ _ _ _ _ _ _ _ _ _ hsz h he).mono ?_; rintro e w2 ⟨rfl, hb_w2⟩
    have hB2 : Below w.heap.size w w2 := bon hB1 hB1.size hb_w2
    have HB2 := Lib.hid hB2
    have hB2s := hB2.size
    clear hb_w2 hB1 hB2 HH
    go_wp2_with fail
    obtain ⟨b7, hb7⟩ : ∃ b, b = w2.heap.size := ⟨_, rfl⟩
    have hR0 : NilR w b7 (w2.alloc (.cells #[.bool false, .int .i64 0, .int .i64 0, .slice none 0 0] 57)) :=
      ⟨HB2.out.alloc HB2.out.size _, none, 0, by subst hb7; exact Blk.new _ _ _, rfl, [], que_nil _ _ _, rfl⟩
    have hw7 : w.heap.size ≤ b7 := by omega
    rw [← hb7]
    have HR0 := Lib.hid hR0
    clear hb7 hR0
    go_loopg [9] n (fun k s9 wr => ∃ j : Nat, k = n - j ∧ j ≤ n ∧ s9 = .int .i64 j ∧ NilR w b7 wr)
    case atStart => exact ⟨0, by omega, by omega, by first | rfl | simp, HR0.out⟩
    case round =>
      obtain ⟨j, hk, hj, rfl, hB, ad, cq, kb, kq⟩ := hrel
      have HKQ := Lib.hid kq
      have HKB := Lib.hid kb
      have HB := Lib.hid hB
      have hb7 := kb.lt
      obtain ⟨⟨c0, f0⟩, ⟨c1, f1⟩, ⟨c2, f2⟩, c3, f3⟩ := kb.c4
      clear kq kb HR0 HB2
      by_cases hlt : j < n
      · obtain ⟨b, off, hA, hbl, o0, o1, o2, ho⟩ := HRD.out j (by rw [HZN.out]; omega)
        obtain ⟨X, hX⟩ : ∃ X, l[j]'(by rw [HZN.out]; omega) = X := ⟨_, rfl⟩
        rw [hX] at o0 o1 o2 ho
        have ho' := ho.below hB
        have hcap := ho.cap
        obtain ⟨xk, xn, xA, xc, xz⟩ := X
        simp only at o0 o1 o2 hcap
        obtain ⟨m, hm⟩ : ∃ m, xz.length = m := ⟨_, rfl⟩
        rw [hm] at o2 hcap
        have HM := Lib.hid hm
        have HOW := Lib.hid ho
        have HO1 := Lib.hid o1
        have HO2 := Lib.hid o2
        replace o0 := (hB.cell (p := ⟨b, off + j * 3, none⟩) hbl).trans o0
        replace o1 := (hB.cell (p := ⟨b, off + j * 3 + 1, none⟩) hbl).trans o1
        replace o2 := (hB.cell (p := ⟨b, off + j * 3 + 2, none⟩) hbl).trans o2
        have HO := Lib.hid ho'
        have hbr : b < wr.heap.size := Nat.lt_of_lt_of_le hbl hB.size
        have hnb : b ≠ b7 := by omega
        have hnb' : b7 ≠ b := by omega
        have m1 : b7 ≠ wr.heap.size := by omega
        have m2 : wr.heap.size ≠ b7 := by omega
        have m3 : b ≠ wr.heap.size := by omega
        have m4 : wr.heap.size ≠ b := by omega
        have hs := ho.n
        unfold i64R at hs
        simp only at hs
        clear ho ho' hX hm hB
        subst hA
        go_upto_block 2 with fail
        go_cut [] (fun wx => NilR w b7 wx)
        case first =>
          by_cases hk1 : xk = 1
          · subst hk1
            --PART c1
            go_upto_region 16 with fail
            go_cut [10, 11] (fun s10 s11 wx => ∃ g10, s10 = .pointer (some ⟨g10, 0, none⟩) ∧ s11 = .int .i64 1 ∧ MidN wr g10 wx)
            case first =>
              go_region_held3 (fun w' => w'.cell? ⟨b7, 0, none⟩ = some (.bool false) ∧ w'.cell? ⟨b7, 1, none⟩ = some (.int .i64 0) ∧ w'.cell? ⟨b7, 2, none⟩ = some (.int .i64 0) ∧ w'.cell? ⟨b7, 3, none⟩ = some (.slice ad 0 cq) ∧ w'.cell? ⟨b, off + j * 3 + 1, none⟩ = some (.int .i64 xn) ∧ w'.cell? ⟨b, off + j * 3 + 2, none⟩ = some (.slice xA m xc)) (go_keep)
                ((go_at_call 27; refine (rcommit_no _ _ _ _ _ _ _ _).mono ?_; rintro e w6 ⟨rfl, hb6⟩; have k6 := HKQ.out.below (bon (show Below wr.heap.size wr _ by (with_reducible repeat (first | assumption | exact Below.refl _ _ | refine Below.setCell ?_ (by first | omega | (simp; done) | (simp; omega)) _ | refine Below.drew ?_ | refine bdrewN ?_ _ | refine Below.alloc ?_ (by first | omega | (simp; done) | (simp; omega)) _))) (by simp) hb6); have hx6 : Below wr.heap.size wr w6 := bon (by (with_reducible repeat (first | assumption | exact Below.refl _ _ | refine Below.setCell ?_ (by first | omega | (simp; done) | (simp; omega)) _ | refine Below.drew ?_ | refine bdrewN ?_ _ | refine Below.alloc ?_ (by first | omega | (simp; done) | (simp; omega)) _))) (by simp) hb6; have t0 := (hx6.cell (p := ⟨b7, 0, none⟩) hb7).trans c0; have t1 := (hx6.cell (p := ⟨b7, 1, none⟩) hb7).trans c1; have t2 := (hx6.cell (p := ⟨b7, 2, none⟩) hb7).trans c2; have t3 := (hx6.cell (p := ⟨b7, 3, none⟩) hb7).trans c3; have t4 := (hx6.cell (p := ⟨b, off + j * 3 + 1, none⟩) hbr).trans o1; have t5 := (hx6.cell (p := ⟨b, off + j * 3 + 2, none⟩) hbr).trans o2; have hz6 := hb6.size; simp at hz6; have n1 : b7 ≠ w6.heap.size := (by omega); have n2 : w6.heap.size ≠ b7 := (by omega); have n3 : b ≠ w6.heap.size := (by omega); have n4 : w6.heap.size ≠ b := (by omega); obtain ⟨hc_w6, hf_w6⟩ := bcell hb6; have HX6 := Lib.hid hx6; have HB6 := Lib.hid hb6; have HK6 := Lib.hid k6; clear hb6 k6 hx6))
              · clear hc_w6 hf_w6
                go_wp2_with fail
                go_meet
                exact ⟨_, rfl, rfl, midN_new (by (with_reducible repeat (first | assumption | exact Below.refl _ _ | refine Below.setCell ?_ (by first | omega | (simp; done) | (simp; omega)) _ | refine Below.drew ?_ | refine bdrewN ?_ _ | refine Below.alloc ?_ (by first | omega | (simp; done) | (simp; omega)) _))) HB6.out HK6.out⟩
              · clear hc_w6 hf_w6
                go_wp2_with fail
                go_meet
                exact ⟨_, rfl, rfl, midN_old (by (with_reducible repeat (first | assumption | exact Below.refl _ _ | refine Below.setCell ?_ (by first | omega | (simp; done) | (simp; omega)) _ | refine Below.drew ?_ | refine bdrewN ?_ _ | refine Below.alloc ?_ (by first | omega | (simp; done) | (simp; omega)) _))) (by (with_reducible repeat (first | assumption | (refine Blk.newAt ?_; first | rfl | (simp; done)) | refine Blk.alloc ?_ _ | refine Blk.drew ?_ | refine Blk.other ?_ (by simp) _))) HB6.out HK6.out⟩
            case rest =>
              obtain ⟨g10, rfl, rfl, hM⟩ := hcut
              obtain ⟨hg10, hbc, ad6, c6, kx, qx⟩ := hM
              have K7 := Blk.below hbc HKB.out
              obtain ⟨⟨e0, h0⟩, ⟨e1, h1⟩, ⟨e2, h2⟩, e3, h3⟩ := K7.c4
              obtain ⟨⟨i0, _⟩, ⟨i1, _⟩, ⟨i2, _⟩, i3, _⟩ := kx.c4
              have HF7 := Lib.hid (K7.set4 (.bool false) (.int .i64 0) (.int .i64 0) (.slice ad6 0 c6)).2
              have HSR := Lib.hid (set_endN HB.out HKB.out hw7 hbc qx)
              clear K7 kx qx hbc
              go_upto_region 18 with fail
              generalize ((((wc.setCell ⟨b7, 0, none⟩ (.bool false)).setCell ⟨b7, 1, none⟩ (.int .i64 0)).setCell ⟨b7, 2, none⟩ (.int .i64 0)).setCell ⟨b7, 3, none⟩ (.slice ad6 0 c6)) = w8 at *
              have hb8 := HSR.out.1
              have o1n := (hb8.cell (p := ⟨b, off + j * 3 + 1, none⟩) hbl).trans HO1.out
              have o2n := (hb8.cell (p := ⟨b, off + j * 3 + 2, none⟩) hbl).trans HO2.out
              have hb8s := hb8.size
              have hbr8 : b < w8.heap.size := by omega
              clear hb8 o1 o2 c0 c1 c2 c3 f0 f1 f2 f3 e0 e1 e2 e3 h0 h1 h2 h3 i0 i1 i2 i3 o0
              go_quiet ((go_at_call 21; exact quiet_mine (pcommit_nil _ _ _)))
              go_wp2_with fail
              go_meet
              exact HSR.out.below (bdrewN (Below.refl _ _) _)
            --END c1
          · by_cases hk2 : xk = 2
            · subst hk2
              --PART c2
              go_upto_region 21 with fail
              go_cut [12, 13] (fun s12 s13 wx => ∃ g10 a13 e13, s12 = .pointer (some ⟨g10, 0, none⟩) ∧ s13 = .slice a13 0 e13 ∧ MidN wr g10 wx)
              case first =>
                go_region_held3 (fun w' => w'.cell? ⟨b7, 0, none⟩ = some (.bool false) ∧ w'.cell? ⟨b7, 1, none⟩ = some (.int .i64 0) ∧ w'.cell? ⟨b7, 2, none⟩ = some (.int .i64 0) ∧ w'.cell? ⟨b7, 3, none⟩ = some (.slice ad 0 cq) ∧ w'.cell? ⟨b, off + j * 3 + 1, none⟩ = some (.int .i64 xn)) (go_keep)
                  ((go_at_call 28; refine (rdiscard_nil xn ad cq _ (HKQ.out.below (by (with_reducible repeat (first | assumption | exact Below.refl _ _ | refine Below.setCell ?_ (by first | omega | (simp; done) | (simp; omega)) _ | refine Below.drew ?_ | refine bdrewN ?_ _ | refine Below.alloc ?_ (by first | omega | (simp; done) | (simp; omega)) _))))).mono ?_; rintro e w6 ⟨ad6, c6, a6, e6, rfl, hb6, k6⟩; have hx6 : Below wr.heap.size wr w6 := bon (by (with_reducible repeat (first | assumption | exact Below.refl _ _ | refine Below.setCell ?_ (by first | omega | (simp; done) | (simp; omega)) _ | refine Below.drew ?_ | refine bdrewN ?_ _ | refine Below.alloc ?_ (by first | omega | (simp; done) | (simp; omega)) _))) (by simp) hb6; have t0 := (hx6.cell (p := ⟨b7, 0, none⟩) hb7).trans c0; have t1 := (hx6.cell (p := ⟨b7, 1, none⟩) hb7).trans c1; have t2 := (hx6.cell (p := ⟨b7, 2, none⟩) hb7).trans c2; have t3 := (hx6.cell (p := ⟨b7, 3, none⟩) hb7).trans c3; have t4 := (hx6.cell (p := ⟨b, off + j * 3 + 1, none⟩) hbr).trans o1; have t5 := (hx6.cell (p := ⟨b, off + j * 3 + 2, none⟩) hbr).trans o2; have hz6 := hb6.size; simp at hz6; have n1 : b7 ≠ w6.heap.size := (by omega); have n2 : w6.heap.size ≠ b7 := (by omega); have n3 : b ≠ w6.heap.size := (by omega); have n4 : w6.heap.size ≠ b := (by omega); obtain ⟨hc_w6, hf_w6⟩ := bcell hb6; have HX6 := Lib.hid hx6; have HB6 := Lib.hid hb6; have HK6 := Lib.hid k6; clear hb6 k6 hx6))
                · clear hc_w6 hf_w6
                  go_wp2_with fail
                  go_meet
                  exact ⟨_, _, _, rfl, rfl, midN_new (by (with_reducible repeat (first | assumption | exact Below.refl _ _ | refine Below.setCell ?_ (by first | omega | (simp; done) | (simp; omega)) _ | refine Below.drew ?_ | refine bdrewN ?_ _ | refine Below.alloc ?_ (by first | omega | (simp; done) | (simp; omega)) _))) HB6.out HK6.out⟩
                · clear hc_w6 hf_w6
                  go_wp2_with fail
                  go_meet
                  exact ⟨_, _, _, rfl, rfl, midN_old (by (with_reducible repeat (first | assumption | exact Below.refl _ _ | refine Below.setCell ?_ (by first | omega | (simp; done) | (simp; omega)) _ | refine Below.drew ?_ | refine bdrewN ?_ _ | refine Below.alloc ?_ (by first | omega | (simp; done) | (simp; omega)) _))) (by (with_reducible repeat (first | assumption | (refine Blk.newAt ?_; first | rfl | (simp; done)) | refine Blk.alloc ?_ _ | refine Blk.drew ?_ | refine Blk.other ?_ (by simp) _))) HB6.out HK6.out⟩
              case rest =>
                obtain ⟨g10, a13, e13, rfl, rfl, hM⟩ := hcut
                obtain ⟨hg10, hbc, ad6, c6, kx, qx⟩ := hM
                have K7 := Blk.below hbc HKB.out
                obtain ⟨⟨e0, h0⟩, ⟨e1, h1⟩, ⟨e2, h2⟩, e3, h3⟩ := K7.c4
                obtain ⟨⟨i0, _⟩, ⟨i1, _⟩, ⟨i2, _⟩, i3, _⟩ := kx.c4
                have HF7 := Lib.hid (K7.set4 (.bool false) (.int .i64 0) (.int .i64 0) (.slice ad6 0 c6)).2
                have HSR := Lib.hid (set_endN HB.out HKB.out hw7 hbc qx)
                clear K7 kx qx hbc
                go_upto_region 23 with fail
                generalize ((((wc.setCell ⟨b7, 0, none⟩ (.bool false)).setCell ⟨b7, 1, none⟩ (.int .i64 0)).setCell ⟨b7, 2, none⟩ (.int .i64 0)).setCell ⟨b7, 3, none⟩ (.slice ad6 0 c6)) = w8 at *
                have hb8 := HSR.out.1
                have o1n := (hb8.cell (p := ⟨b, off + j * 3 + 1, none⟩) hbl).trans HO1.out
                have o2n := (hb8.cell (p := ⟨b, off + j * 3 + 2, none⟩) hbl).trans HO2.out
                have hb8s := hb8.size
                have hbr8 : b < w8.heap.size := by omega
                clear hb8 o1 o2 c0 c1 c2 c3 f0 f1 f2 f3 e0 e1 e2 e3 h0 h1 h2 h3 i0 i1 i2 i3 o0
                go_wp2_with fail
                refine (pdiscard_nil _ _).mono ?_; rintro e w9 ⟨rfl, rfl⟩
                go_wp2_with fail
                refine (numbers_same none a13 0 e13 [] _ (fun j h => absurd h (by simp)) (fun j h => absurd h (by simp)) (by simp)).mono ?_; rintro e w10 ⟨rfl, hb10⟩
                have HB10 := Lib.hid hb10
                clear hb10
                go_wp2_with fail
                go_meet
                exact HSR.out.below HB10.out
              --END c2
            · have hk1b : (xk == 1) = false := by simpa using hk1
              have hk2b : (xk == 2) = false := by simpa using hk2
              --PART c3
              go_upto_region 11 with fail
              go_cut [14, 15] (fun s14 s15 wx => ∃ g10, s14 = .pointer (some ⟨g10, 0, none⟩) ∧ s15 = .slice none 0 0 ∧ MidN wr g10 wx)
              case first =>
                go_region_held3 (fun w' => w'.cell? ⟨b7, 0, none⟩ = some (.bool false) ∧ w'.cell? ⟨b7, 1, none⟩ = some (.int .i64 0) ∧ w'.cell? ⟨b7, 2, none⟩ = some (.int .i64 0) ∧ w'.cell? ⟨b7, 3, none⟩ = some (.slice ad 0 cq) ∧ w'.cell? ⟨b, off + j * 3 + 1, none⟩ = some (.int .i64 xn)) (go_keep)
                  ((go_at_call 31; refine (rtick_no _ _ _ _ _ _ _ hs).mono ?_; rintro e w6 ⟨rfl, hb6⟩; have k6 := HKQ.out.below (bon (show Below wr.heap.size wr _ by (with_reducible repeat (first | assumption | exact Below.refl _ _ | refine Below.setCell ?_ (by first | omega | (simp; done) | (simp; omega)) _ | refine Below.drew ?_ | refine bdrewN ?_ _ | refine Below.alloc ?_ (by first | omega | (simp; done) | (simp; omega)) _))) (by simp) hb6); have hx6 : Below wr.heap.size wr w6 := bon (by (with_reducible repeat (first | assumption | exact Below.refl _ _ | refine Below.setCell ?_ (by first | omega | (simp; done) | (simp; omega)) _ | refine Below.drew ?_ | refine bdrewN ?_ _ | refine Below.alloc ?_ (by first | omega | (simp; done) | (simp; omega)) _))) (by simp) hb6; have t0 := (hx6.cell (p := ⟨b7, 0, none⟩) hb7).trans c0; have t1 := (hx6.cell (p := ⟨b7, 1, none⟩) hb7).trans c1; have t2 := (hx6.cell (p := ⟨b7, 2, none⟩) hb7).trans c2; have t3 := (hx6.cell (p := ⟨b7, 3, none⟩) hb7).trans c3; have t4 := (hx6.cell (p := ⟨b, off + j * 3 + 1, none⟩) hbr).trans o1; have t5 := (hx6.cell (p := ⟨b, off + j * 3 + 2, none⟩) hbr).trans o2; have hz6 := hb6.size; simp at hz6; have n1 : b7 ≠ w6.heap.size := (by omega); have n2 : w6.heap.size ≠ b7 := (by omega); have n3 : b ≠ w6.heap.size := (by omega); have n4 : w6.heap.size ≠ b := (by omega); obtain ⟨hc_w6, hf_w6⟩ := bcell hb6; have HX6 := Lib.hid hx6; have HB6 := Lib.hid hb6; have HK6 := Lib.hid k6; clear hb6 k6 hx6))
                · clear hc_w6 hf_w6
                  go_wp2_with fail
                  go_meet
                  exact ⟨_, rfl, rfl, midN_new (by (with_reducible repeat (first | assumption | exact Below.refl _ _ | refine Below.setCell ?_ (by first | omega | (simp; done) | (simp; omega)) _ | refine Below.drew ?_ | refine bdrewN ?_ _ | refine Below.alloc ?_ (by first | omega | (simp; done) | (simp; omega)) _))) HB6.out HK6.out⟩
                · clear hc_w6 hf_w6
                  go_wp2_with fail
                  go_meet
                  exact ⟨_, rfl, rfl, midN_old (by (with_reducible repeat (first | assumption | exact Below.refl _ _ | refine Below.setCell ?_ (by first | omega | (simp; done) | (simp; omega)) _ | refine Below.drew ?_ | refine bdrewN ?_ _ | refine Below.alloc ?_ (by first | omega | (simp; done) | (simp; omega)) _))) (by (with_reducible repeat (first | assumption | (refine Blk.newAt ?_; first | rfl | (simp; done)) | refine Blk.alloc ?_ _ | refine Blk.drew ?_ | refine Blk.other ?_ (by simp) _))) HB6.out HK6.out⟩
              case rest =>
                obtain ⟨g10, rfl, rfl, hM⟩ := hcut
                obtain ⟨hg10, hbc, ad6, c6, kx, qx⟩ := hM
                have K7 := Blk.below hbc HKB.out
                obtain ⟨⟨e0, h0⟩, ⟨e1, h1⟩, ⟨e2, h2⟩, e3, h3⟩ := K7.c4
                obtain ⟨⟨i0, _⟩, ⟨i1, _⟩, ⟨i2, _⟩, i3, _⟩ := kx.c4
                have HF7 := Lib.hid (K7.set4 (.bool false) (.int .i64 0) (.int .i64 0) (.slice ad6 0 c6)).2
                have HSR := Lib.hid (set_endN HB.out HKB.out hw7 hbc qx)
                clear K7 kx qx hbc
                go_upto_region 13 with fail
                generalize ((((wc.setCell ⟨b7, 0, none⟩ (.bool false)).setCell ⟨b7, 1, none⟩ (.int .i64 0)).setCell ⟨b7, 2, none⟩ (.int .i64 0)).setCell ⟨b7, 3, none⟩ (.slice ad6 0 c6)) = w8 at *
                have hb8 := HSR.out.1
                have o1n := (hb8.cell (p := ⟨b, off + j * 3 + 1, none⟩) hbl).trans HO1.out
                have o2n := (hb8.cell (p := ⟨b, off + j * 3 + 2, none⟩) hbl).trans HO2.out
                have hb8s := hb8.size
                have hbr8 : b < w8.heap.size := by omega
                clear hb8 o1 o2 c0 c1 c2 c3 f0 f1 f2 f3 e0 e1 e2 e3 h0 h1 h2 h3 i0 i1 i2 i3 o0
                go_wp2_with fail
                refine (ptick_nil _ _).mono ?_; rintro e w9 ⟨rfl, rfl⟩
                go_wp2_with fail
                refine (deliveries_same 0 0 (.slice none 0 0) (.slice none 0 0) [] _ (World.ownsRow_nil _ _ _ _) (World.ownsRow_nil _ _ _ _)).mono ?_; rintro e w10 ⟨rfl, hb10⟩
                have HB10 := Lib.hid hb10
                clear hb10
                go_wp2_with fail
                go_meet
                exact HSR.out.below HB10.out
              --END c3
        case rest =>
          --PART r
          have HPR := Lib.hid hcut
          obtain ⟨hb, ad2, c2', kb2, kq2⟩ := hcut
          have o1n := (hb.cell (p := ⟨b, off + j * 3 + 1, none⟩) hbl).trans HO1.out
          obtain ⟨⟨e0, _⟩, ⟨e1, _⟩, ⟨e2, _⟩, e3, _⟩ := kb2.c4
          have g0 := cell_regrown e0
          have g1 := cell_regrown e1
          have g2 := cell_regrown e2
          have g3 := cell_regrown e3
          have g4 := cell_regrown o1n
          clear hb kb2 kq2
          go_upto_region 25 with fail
          (refine wp_region_calm 28 [] [false, false, false, false, false, false, false, false, false, false, false, false, false, false, false, false, false, false, false, false, false, false, false, false, false, false, false, false] (by kernel_rfl) (by kernel_rfl) (by decide) (freshOk_of (by kernel_rfl) (by kernel_rfl) (fun x hx => by cases hx)) ?_; simp only [List.take_succ_cons, List.take_zero, List.drop_succ_cons, List.drop_zero, List.zip_cons_cons, List.zip_nil_left, List.zip_nil_right]; (repeat (first | refine wpCalm_pass ?_ | (refine wpCalm_step (fun K hK => ?_); go_simp; first | (refine hK _ ?_; clear hK K) | (apply Exists.intro; refine ⟨fun _ => ?_, hK _ ?_⟩; (first | exact asB (ppending_nil _) | exact asB (psequence_nil _) | exact asB (pnext_nil _ _) | exact rpending_ok _ _ _ _ _ _ _ (by omega) | exact rsequence_no _ _ _ _ _ _ | exact rnext_no _ _ _ _ _ rfl); clear hK K)))); (first | refine wpCalm_nil ?_ | skip))
          intro F wx hF
          obtain rfl := hF.nil
          have hB2 : Below wc.heap.size wc wx := hF.below
          have HB2 := Lib.hid hB2
          clear g0 g1 g2 g3 g4 hF hB2 e0 e1 e2 e3
          unfold putL
          go_wp2_with fail
          go_roundg (n - (j + 1))
          case measure => omega
          case rel => exact ⟨j + 1, by omega, by omega, by first | rfl | simp, HPR.out.below HB2.out⟩
          --END r
      · --PART x
        obtain rfl : n = j := by omega
        go_wp2_with fail
        refine (ex30_true _).mono ?_; rintro e w3 ⟨rfl, hb3⟩
        have hB3 := bon hB hB.size hb3
        clear hb3
        go_wp2_with fail
        go_ret
        exact ⟨rfl, hB3⟩
        --END x
theorem presentplays_any (nm : ByteArray) (wd ht rf sc tr x y : Int) (A : Option Addr) (l : List OpC) (c : Nat) (w : World) (hsz : nm.size ≤ 9223372036854775807) (hl : l.length ≤ 9223372036854775807) (hr : Ops w A l) :
    Calls Try.prog 8 #[outv nm wd ht rf sc tr x y, .slice A l.length c] w fun e w' => e = .returned (.bool true) ∧ Below w.heap.size w w' := by
  obtain ⟨e, h⟩ := chk_total nm wd ht rf sc tr x y
  by_cases he : e = 0
  · subst he
    exact presentplays_made _ _ _ _ _ _ _ _ A l c w hsz h hl hr
  · exact presentplays_bad _ _ _ _ _ _ _ _ e A l c w hsz h he hl hr
end Go.Proofs.Ytijfldgkmbhdoaa
