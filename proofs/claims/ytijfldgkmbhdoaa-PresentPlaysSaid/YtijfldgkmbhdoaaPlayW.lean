/- PresentPlays: the walk. -/
import Derived.Test.YtijfldgkmbhdoaaKey
import Derived.Test.YtijfldgkmbhdoaaHeavy
import Derived.Test.YtijfldgkmbhdoaaFresh
import Derived.Test.YtijfldgkmbhdoaaNilW
import Derived.Deep.RegionHeld3
import Derived.Deep.CutBlock
import Derived.Deep.DeepCutAuto
set_option linter.unusedVariables false
set_option linter.unusedSimpArgs false
namespace Go.Proofs.Ytijfldgkmbhdoaa
open Go.RowKit
attribute [local go_sem ↓] Go.wp_at_zero Go.wp_at_succ
attribute [local go_sem] calm calmAt calmUpon

theorem tickT_rng {now : Int} (t : Int) (h : 0 ≤ now ∧ now ≤ 4611686018427387904) : 0 ≤ tickT now t ∧ tickT now t ≤ 4611686018427387904 := by
  have := clampT_rng t
  unfold tickT
  split <;> omega
theorem PClk.gone_len {w : World} {B p : Nat} {iv now : Int} {K : List Itm} (k : PClk w B p iv now K) (s : Int) : (goneOf s K).length ≤ 1000000 := by
  obtain ⟨qv, its, k, rfl⟩ := k
  have h := goneOf_length s its k.que.clen its.length (Nat.le_refl _)
  rw [List.take_of_length_le (Nat.le_refl _)] at h
  rw [nrm_gone]
  have := k.que.len
  omega
theorem ppending_any (B p : Nat) (iv now : Int) (K : List Itm) (w : World) (k : PClk w B p iv now K) : Calls Try.prog 22 #[.pointer (some ⟨p, 0, none⟩)] w fun e w' => e = .returned (.int .i64 K.length) ∧ Below w.heap.size w w' := by
  obtain ⟨qv, its, k, rfl⟩ := k
  rw [nrm_length]
  refine (ppending_ok B p iv now qv its w k).mono ?_
  rintro e w' ⟨rfl, rfl⟩
  exact ⟨rfl, Below.refl _ _⟩
theorem psequence_any (B p : Nat) (iv now : Int) (K : List Itm) (w : World) (k : PClk w B p iv now K) : Calls Try.prog 24 #[.pointer (some ⟨p, 0, none⟩)] w fun e w' => e = .returned (.int .i64 (now / iv)) ∧ Below w.heap.size w w' := by
  obtain ⟨qv, its, k, rfl⟩ := k
  exact psequence_ok p iv now w (clk_facts k).1 (clk_facts k).2 k.ivr k.nowr
theorem pnext_any (B p : Nat) (iv now t : Int) (K : List Itm) (w : World) (k : PClk w B p iv now K) (ht : i64R t) : Calls Try.prog 18 #[.pointer (some ⟨p, 0, none⟩), .int .i64 t] w fun e w' => e = .returned (.int .i64 (nxt iv t)) ∧ Below w.heap.size w w' := by
  obtain ⟨qv, its, k, rfl⟩ := k
  exact pnext_ok p iv t w (clk_facts k).1 k.ivr ht
/-- Both clocks between two calls. -/
def PlayR (w : World) (B p b7 : Nat) (iv : Int) (wr : World) : Prop :=
  Below w.heap.size w wr ∧ ∃ now ad n c K, 0 ≤ now ∧ now ≤ 4611686018427387904 ∧ PClk wr B p iv now K ∧ Blk wr b7 57 #[.bool true, .int .i64 iv, .int .i64 now, .slice ad n c] ∧ RQ wr ad n c K
theorem PlayR.below {w : World} {B p b7 : Nat} {iv : Int} {wr wx : World} (h : PlayR w B p b7 iv wr) (hb : Below wr.heap.size wr wx) : PlayR w B p b7 iv wx := by
  obtain ⟨h1, now, ad, n, c, K, h2, h3, h4, h5, h6⟩ := h
  exact ⟨bon h1 h1.size hb, now, ad, n, c, K, h2, h3, h4.below hb, Blk.below hb h5, h6.below hb⟩
/-- What a call of the reference's leaves, ahead of its new clock's store. -/
def MidR (wr : World) (g : Nat) (iv now : Int) (K : List Itm) (wx : World) : Prop :=
  wr.heap.size ≤ g ∧ Below wr.heap.size wr wx ∧ ∃ ad n c, Blk wx g 57 #[.bool true, .int .i64 iv, .int .i64 now, .slice ad n c] ∧ RQ wx ad n c K
theorem mid_new {wr W w6 : World} {iv now : Int} {ad : Option Addr} {n c : Nat} {K : List Itm} (h1 : Below wr.heap.size wr W) (hb : Below W.heap.size W w6) (hq : RQ w6 ad n c K) : MidR wr w6.heap.size iv now K (w6.alloc (.cells #[.bool true, .int .i64 iv, .int .i64 now, .slice ad n c] 57)) := by
  have h2 : Below wr.heap.size wr w6 := bon h1 h1.size hb
  exact ⟨h2.size, h2.alloc h2.size _, ad, n, c, Blk.new _ _ _, hq.below ((Below.refl _ _).alloc (Nat.le_refl _) _)⟩
theorem mid_old {wr W w6 : World} {iv now : Int} {ad : Option Addr} {n c : Nat} {K : List Itm} (h1 : Below wr.heap.size wr W) (hk : Blk W wr.heap.size 57 #[.bool false, .int .i64 0, .int .i64 0, .slice none 0 0]) (hb : Below W.heap.size W w6) (hq : RQ w6 ad n c K) :
    MidR wr wr.heap.size iv now K ((((w6.setCell ⟨wr.heap.size, 0, none⟩ (.bool true)).setCell ⟨wr.heap.size, 1, none⟩ (.int .i64 iv)).setCell ⟨wr.heap.size, 2, none⟩ (.int .i64 now)).setCell ⟨wr.heap.size, 3, none⟩ (.slice ad n c)) := by
  have h2 : Below wr.heap.size wr w6 := bon h1 h1.size hb
  obtain ⟨KE, FE⟩ := (Blk.below hb hk).set4 (.bool true) (.int .i64 iv) (.int .i64 now) (.slice ad n c)
  exact ⟨Nat.le_refl _, (((h2.setCell (Nat.le_refl _) _).setCell (Nat.le_refl _) _).setCell (Nat.le_refl _) _).setCell (Nat.le_refl _) _, ad, n, c, KE, hq.carry FE ⟨rfl, rfl⟩⟩
theorem mid_frame {wr W w6 : World} {iv now : Int} {ad : Option Addr} {n c : Nat} (hk : Blk W wr.heap.size 57 #[.bool false, .int .i64 0, .int .i64 0, .slice none 0 0]) (hb : Below W.heap.size W w6) :
    FrT 0 [57] w6 ((((w6.setCell ⟨wr.heap.size, 0, none⟩ (.bool true)).setCell ⟨wr.heap.size, 1, none⟩ (.int .i64 iv)).setCell ⟨wr.heap.size, 2, none⟩ (.int .i64 now)).setCell ⟨wr.heap.size, 3, none⟩ (.slice ad n c)) :=
  ((Blk.below hb hk).set4 (.bool true) (.int .i64 iv) (.int .i64 now) (.slice ad n c)).2
/-- The new clock in its variable. -/
def SetR (w : World) (B p b7 : Nat) (iv now now' : Int) (K K' : List Itm) (wx : World) : Prop :=
  Below w.heap.size w wx ∧ PClk wx B p iv now K ∧ ∃ ad n c, Blk wx b7 57 #[.bool true, .int .i64 iv, .int .i64 now', .slice ad n c] ∧ RQ wx ad n c K'
theorem set_end {w wr wc : World} {B p b7 : Nat} {iv now now' : Int} {K K' : List Itm} {ad ad' : Option Addr} {n c n' c' : Nat} (hb : Below w.heap.size w wr) (kp : PClk wr B p iv now K) (k7 : Blk wr b7 57 #[.bool true, .int .i64 iv, .int .i64 now, .slice ad n c])
    (hw7 : w.heap.size ≤ b7) (hbc : Below wr.heap.size wr wc) (q : RQ wc ad' n' c' K') :
    SetR w B p b7 iv now now' K K' ((((wc.setCell ⟨b7, 0, none⟩ (.bool true)).setCell ⟨b7, 1, none⟩ (.int .i64 iv)).setCell ⟨b7, 2, none⟩ (.int .i64 now')).setCell ⟨b7, 3, none⟩ (.slice ad' n' c')) := by
  obtain ⟨KE, FE⟩ := (Blk.below hbc k7).set4 (.bool true) (.int .i64 iv) (.int .i64 now') (.slice ad' n' c')
  have h2 : Below w.heap.size w wc := bon hb hb.size hbc
  exact ⟨(((h2.setCell hw7 _).setCell hw7 _).setCell hw7 _).setCell hw7 _, (kp.below hbc).carry FE ⟨rfl, rfl, rfl⟩, ad', n', c', KE, q.carry FE ⟨rfl, rfl⟩⟩
theorem play_end {w w8 w9 : World} {B p b7 : Nat} {iv now now' : Int} {K K' : List Itm} (h : SetR w B p b7 iv now now' K K' w8) (hf : FrT B [78, 84] w8 w9) (kp : PClk w9 B p iv now' K') (hBw : w.heap.size ≤ B) (hn : 0 ≤ now' ∧ now' ≤ 4611686018427387904) : PlayR w B p b7 iv w9 := by
  obtain ⟨hb, _, ad, n, c, kb, kq⟩ := h
  exact ⟨hb.trans ((hf.mono hBw (fun _ h => h)).toBelow hb.size), now', ad, n, c, K', hn.1, hn.2, kp, hf.blk kb (.inr rfl), kq.carry hf ⟨rfl, rfl⟩⟩
set_option maxRecDepth 100000 in
set_option maxHeartbeats 4000000 in
theorem presentplays_made (nm : ByteArray) (wd ht rf sc tr x y : Int) (A : Option Addr) (l : List OpC) (c : Nat) (w : World) (hsz : nm.size ≤ 9223372036854775807) (h : chkIs nm wd ht rf sc tr x y 0) (hl : l.length ≤ 9223372036854775807)
    (hr : Ops w A l) :
    Calls Try.prog 8 #[outv nm wd ht rf sc tr x y, .slice A l.length c] w fun e w' => e = .returned (.bool true) ∧ Below w.heap.size w w' := by
  obtain ⟨ha, hrr, hp⟩ := chk_zero h
  have hi := ivl_rng ⟨hrr.2.2.1, hrr.2.2.2⟩
  obtain ⟨n, hzn⟩ : ∃ n, l.length = n := ⟨_, rfl⟩
  have hH := lheavy_any A l c _ (hr.below ((Below.refl _ _).alloc (Nat.le_refl _) (.cells #[.string nm, .int .i64 wd, .int .i64 ht, .int .i64 rf, .int .i64 sc, .int .i64 tr, .int .i64 x, .int .i64 y] 30))) hl
  rw [hzn] at hl hH ⊢
  have HZN := Lib.hid hzn
  have HRD := Lib.hid hr
  have HH := Lib.hid hH
  clear hzn hr hH ha hrr hp
  go_enter Try.func8, Try.ntmps8
  go_wp2_with fail
  refine HH.out.mono ?_; rintro e wh ⟨b, rfl, rfl⟩
  cases b with
  | true =>
    go_wp2_with fail
    refine (ex30_true _).mono ?_; rintro e w3 ⟨rfl, hb_w3⟩
    have hB3 : Below w.heap.size w w3 := bon (by (with_reducible repeat (first | assumption | exact Below.refl _ _ | refine Below.setCell ?_ (by first | omega | (simp; done) | (simp; omega)) _ | refine Below.drew ?_ | refine bdrewN ?_ _ | refine Below.alloc ?_ (by first | omega | (simp; done) | (simp; omega)) _))) (by simp) hb_w3
    clear hb_w3
    go_wp2_with fail
    go_ret
    exact ⟨rfl, hB3⟩
  | false =>
    go_wp2_with fail
    refine (pnew_ok _ _ _ _ _ _ _ _ _ hsz h).mono ?_; rintro e w1 ⟨p, rfl, hb_w1, k1⟩
    have hB1 : Below w.heap.size w w1 := bon (by (with_reducible repeat (first | assumption | exact Below.refl _ _ | refine Below.setCell ?_ (by first | omega | (simp; done) | (simp; omega)) _ | refine Below.drew ?_ | refine bdrewN ?_ _ | refine Below.alloc ?_ (by first | omega | (simp; done) | (simp; omega)) _))) (by simp) hb_w1
    have K1 : Blk w1 (w.heap.size) 30 #[.string nm, .int .i64 wd, .int .i64 ht, .int .i64 rf, .int .i64 sc, .int .i64 tr, .int .i64 x, .int .i64 y] := Blk.below hb_w1 (by (with_reducible repeat (first | assumption | (refine Blk.newAt ?_; first | rfl | (simp; done)) | refine Blk.alloc ?_ _ | refine Blk.drew ?_ | refine Blk.other ?_ (by simp) _)))
    obtain ⟨c0, c1, c2, c3, c4, c5, c6, c7⟩ := out_cells K1
    have k1' := Lib.hid k1
    clear hb_w1 K1 k1
    go_wp2_with fail
    refine (rnew_ok _ _ _ _ _ _ _ _ _ hsz h).mono ?_; rintro e w2 ⟨rfl, hb_w2⟩
    have hB2 : Below w.heap.size w w2 := bon hB1 hB1.size hb_w2
    have k2 := k1'.out.below hb_w2
    generalize hBB : (w.alloc (.cells #[.string nm, .int .i64 wd, .int .i64 ht, .int .i64 rf, .int .i64 sc, .int .i64 tr, .int .i64 x, .int .i64 y] 30)).heap.size = B at k2
    have hBw : w.heap.size ≤ B := by rw [← hBB]; simp
    generalize ivl rf = iv at *
    have K2 := Lib.hid k2
    have HB2 := Lib.hid hB2
    have hB2s := hB2.size
    clear hb_w2 k2 hBB k1' hB1 hB2 HH
    go_wp2_with fail
    obtain ⟨b7, hb7⟩ : ∃ b, b = w2.heap.size := ⟨_, rfl⟩
    have hB0 : Below w.heap.size w (w2.alloc (.cells #[.bool true, .int .i64 iv, .int .i64 0, .slice none 0 0] 57)) := HB2.out.alloc HB2.out.size _
    have hR0 : PlayR w B p b7 iv (w2.alloc (.cells #[.bool true, .int .i64 iv, .int .i64 0, .slice none 0 0] 57)) :=
      ⟨hB0, 0, none, 0, 0, [], by omega, by omega, PClk.below ((Below.refl _ _).alloc (Nat.le_refl _) _) ⟨_, [], K2.out, rfl⟩, by subst hb7; exact Blk.new _ _ _, rfl, [], que_nil _ _ _, rfl⟩
    have hw7 : w.heap.size ≤ b7 := by omega
    rw [← hb7]
    have HR0 := Lib.hid hR0
    clear hb7 hB0 hR0
    go_loopg [9] n (fun k s9 wr => ∃ j : Nat, k = n - j ∧ j ≤ n ∧ s9 = .int .i64 j ∧ PlayR w B p b7 iv wr)
    case atStart => exact ⟨0, by omega, by omega, by first | rfl | simp, HR0.out⟩
    case round =>
      obtain ⟨j, hk, hj, rfl, hB, now, ad, nq, cq, K, hn0, hn1, kp, kb, kq⟩ := hrel
      have HKP := Lib.hid kp
      have HKQ := Lib.hid kq
      have HKB := Lib.hid kb
      have HB := Lib.hid hB
      have hb7 := kb.lt
      obtain ⟨⟨c0, f0⟩, ⟨c1, f1⟩, ⟨c2, f2⟩, c3, f3⟩ := kb.c4
      clear kp kq kb HR0 K2 HB2
      by_cases hlt : j < n
      · obtain ⟨b, off, hA, hbl, o0, o1, o2, ho⟩ := HRD.out j (by rw [HZN.out]; omega)
        obtain ⟨X, hX⟩ : ∃ X, l[j]'(by rw [HZN.out]; omega) = X := ⟨_, rfl⟩
        rw [hX] at o0 o1 o2 ho
        have ho' := ho.below hB
        have hcap := ho.cap
        obtain ⟨xk, xn, xA, xc, xz⟩ := X
        simp only at o0 o1 o2 hcap
        obtain ⟨m, hm⟩ : ∃ m, xz.length = m := ⟨_, rfl⟩
        rw [hm] at o2 hcap
        have HM := Lib.hid hm
        have HOW := Lib.hid ho
        have HO1 := Lib.hid o1
        have HO2 := Lib.hid o2
        replace o0 := (hB.cell (p := ⟨b, off + j * 3, none⟩) hbl).trans o0
        replace o1 := (hB.cell (p := ⟨b, off + j * 3 + 1, none⟩) hbl).trans o1
        replace o2 := (hB.cell (p := ⟨b, off + j * 3 + 2, none⟩) hbl).trans o2
        have HO := Lib.hid ho'
        have hbr : b < wr.heap.size := Nat.lt_of_lt_of_le hbl hB.size
        have hnb : b ≠ b7 := by omega
        have hnb' : b7 ≠ b := by omega
        have m1 : b7 ≠ wr.heap.size := by omega
        have m2 : wr.heap.size ≠ b7 := by omega
        have m3 : b ≠ wr.heap.size := by omega
        have m4 : wr.heap.size ≠ b := by omega
        have hs := ho.n
        unfold i64R at hs
        simp only at hs
        clear ho ho' hX hm hB
        subst hA
        go_upto_block 2 with fail
        go_cut [] (fun wx => PlayR w B p b7 iv wx)
        case first =>
          by_cases hk1 : xk = 1
          · subst hk1
            obtain ⟨g, hg⟩ : ∃ g, cmtE K xn xz = g := ⟨_, rfl⟩
            have HG := Lib.hid hg
            have hC := fun W (h : Below wr.heap.size wr W) => rcommit_any iv now xn ad nq cq K (.slice xA m xc) xz W (HKQ.out.below h) HO.out.n (by have := (HO.out.below h).src; simp only [HM.out] at this; rw [HM.out]; exact this) (by rw [HM.out]; omega) HO.out.rng
            rw [hg] at hC
            have HC := Lib.hid hC
            clear hC hg
            --PART c1
            go_upto_region 16 with fail
            go_cut [10, 11] (fun s10 s11 wx => ∃ g10, s10 = .pointer (some ⟨g10, 0, none⟩) ∧ s11 = .int .i64 g ∧ MidR wr g10 iv now (cmtK K xn xz) wx)
            case first =>
              go_region_held3 (fun w' => w'.cell? ⟨b7, 0, none⟩ = some (.bool true) ∧ w'.cell? ⟨b7, 1, none⟩ = some (.int .i64 iv) ∧ w'.cell? ⟨b7, 2, none⟩ = some (.int .i64 now) ∧ w'.cell? ⟨b7, 3, none⟩ = some (.slice ad nq cq) ∧ w'.cell? ⟨b, off + j * 3 + 1, none⟩ = some (.int .i64 xn) ∧ w'.cell? ⟨b, off + j * 3 + 2, none⟩ = some (.slice xA m xc)) (go_keep)
                ((go_at_call 27; refine (HC.out _ (by (with_reducible repeat (first | assumption | exact Below.refl _ _ | refine Below.setCell ?_ (by first | omega | (simp; done) | (simp; omega)) _ | refine Below.drew ?_ | refine bdrewN ?_ _ | refine Below.alloc ?_ (by first | omega | (simp; done) | (simp; omega)) _)))).mono ?_; rintro e w6 ⟨ad6, n6, c6, rfl, hb6, k6⟩; have hx6 : Below wr.heap.size wr w6 := bon (by (with_reducible repeat (first | assumption | exact Below.refl _ _ | refine Below.setCell ?_ (by first | omega | (simp; done) | (simp; omega)) _ | refine Below.drew ?_ | refine bdrewN ?_ _ | refine Below.alloc ?_ (by first | omega | (simp; done) | (simp; omega)) _))) (by simp) hb6; have t0 := (hx6.cell (p := ⟨b7, 0, none⟩) hb7).trans c0; have t1 := (hx6.cell (p := ⟨b7, 1, none⟩) hb7).trans c1; have t2 := (hx6.cell (p := ⟨b7, 2, none⟩) hb7).trans c2; have t3 := (hx6.cell (p := ⟨b7, 3, none⟩) hb7).trans c3; have t4 := (hx6.cell (p := ⟨b, off + j * 3 + 1, none⟩) hbr).trans o1; have t5 := (hx6.cell (p := ⟨b, off + j * 3 + 2, none⟩) hbr).trans o2; have hz6 := hb6.size; simp at hz6; have n1 : b7 ≠ w6.heap.size := (by omega); have n2 : w6.heap.size ≠ b7 := (by omega); have n3 : b ≠ w6.heap.size := (by omega); have n4 : w6.heap.size ≠ b := (by omega); obtain ⟨hc_w6, hf_w6⟩ := bcell hb6; have HX6 := Lib.hid hx6; have HB6 := Lib.hid hb6; have HK6 := Lib.hid k6; clear hb6 k6 hx6))
              · clear hc_w6 hf_w6
                go_wp2_with fail
                go_meet
                exact ⟨_, rfl, rfl, mid_new (by (with_reducible repeat (first | assumption | exact Below.refl _ _ | refine Below.setCell ?_ (by first | omega | (simp; done) | (simp; omega)) _ | refine Below.drew ?_ | refine bdrewN ?_ _ | refine Below.alloc ?_ (by first | omega | (simp; done) | (simp; omega)) _))) HB6.out HK6.out⟩
              · clear hc_w6 hf_w6
                go_wp2_with fail
                go_meet
                exact ⟨_, rfl, rfl, mid_old (by (with_reducible repeat (first | assumption | exact Below.refl _ _ | refine Below.setCell ?_ (by first | omega | (simp; done) | (simp; omega)) _ | refine Below.drew ?_ | refine bdrewN ?_ _ | refine Below.alloc ?_ (by first | omega | (simp; done) | (simp; omega)) _))) (by (with_reducible repeat (first | assumption | (refine Blk.newAt ?_; first | rfl | (simp; done)) | refine Blk.alloc ?_ _ | refine Blk.drew ?_ | refine Blk.other ?_ (by simp) _))) HB6.out HK6.out⟩
            case rest =>
              obtain ⟨g10, rfl, rfl, hM⟩ := hcut
              obtain ⟨hg10, hbc, ad6, n6, c6, kx, qx⟩ := hM; have K7 := Blk.below hbc HKB.out; obtain ⟨⟨e0, h0⟩, ⟨e1, h1⟩, ⟨e2, h2⟩, e3, h3⟩ := K7.c4; obtain ⟨⟨i0, _⟩, ⟨i1, _⟩, ⟨i2, _⟩, i3, _⟩ := kx.c4; have hSR := set_end (now' := now) HB.out HKP.out HKB.out hw7 hbc qx; have HF7 := Lib.hid (K7.set4 (.bool true) (.int .i64 iv) (.int .i64 now) (.slice ad6 n6 c6)).2; have HSR := Lib.hid hSR; have HBC := Lib.hid hbc; have HKX := Lib.hid kx; clear hSR K7 kx qx hbc
              go_upto_region 18 with fail
              generalize ((((wc.setCell ⟨b7, 0, none⟩ (.bool true)).setCell ⟨b7, 1, none⟩ (.int .i64 iv)).setCell ⟨b7, 2, none⟩ (.int .i64 now)).setCell ⟨b7, 3, none⟩ (.slice ad6 n6 c6)) = w8 at *
              obtain ⟨hb8, kp8, ad8, n8, c8, kb8, kq8⟩ := HSR.out
              have o1n := (hb8.cell (p := ⟨b, off + j * 3 + 1, none⟩) hbl).trans HO1.out
              have o2n := (hb8.cell (p := ⟨b, off + j * 3 + 2, none⟩) hbl).trans HO2.out
              have HO8 := Lib.hid (HOW.out.below hb8)
              have HKP8 := Lib.hid kp8
              have hb8s := hb8.size
              have hbr8 : b < w8.heap.size := by omega
              clear hb8 kp8 kb8 kq8
              have hC := fun W (h : Below w8.heap.size w8 W) => pcommit_any B p iv now xn K (.slice xA m xc) xz W (HKP8.out.below h) HO8.out.n (by have := (HO8.out.below h).src; simp only [HM.out] at this; rw [HM.out]; exact this) (by rw [HM.out]; omega) HO8.out.rng
              rw [HG.out] at hC
              have HC8 := Lib.hid hC
              clear hC HC HG o1 o2 c0 c1 c2 c3 f0 f1 f2 f3 e0 e1 e2 e3 h0 h1 h2 h3 i0 i1 i2 i3 o0
              go_region_held3 (fun w' => w'.cell? ⟨b, off + j * 3 + 1, none⟩ = some (.int .i64 xn) ∧ w'.cell? ⟨b, off + j * 3 + 2, none⟩ = some (.slice xA m xc)) (go_keep)
                ((go_at_call 21; refine (HC8.out _ (by (with_reducible repeat (first | assumption | exact Below.refl _ _ | refine Below.setCell ?_ (by first | omega | (simp; done) | (simp; omega)) _ | refine Below.drew ?_ | refine bdrewN ?_ _ | refine Below.alloc ?_ (by first | omega | (simp; done) | (simp; omega)) _)))).mono ?_; rintro e w9 ⟨rfl, hf9, k9⟩; have hx9 : Below w.heap.size w8 w9 := ((FrT.refl w.heap.size [78, 84] w8).drew.trans (hf9.mono hBw (fun _ h => h))).toBelow hb8s; have t4 := (hx9.cell (p := ⟨b, off + j * 3 + 1, none⟩) hbl).trans o1n; have t5 := (hx9.cell (p := ⟨b, off + j * 3 + 2, none⟩) hbl).trans o2n; have HF9 := Lib.hid hf9; have HK9 := Lib.hid k9; clear hf9 k9 hx9))
              go_wp2_with fail
              go_meet
              exact play_end HSR.out ((FrT.refl B [78, 84] w8).drew.trans HF9.out) HK9.out hBw ⟨hn0, hn1⟩
            --END c1
          · by_cases hk2 : xk = 2
            · subst hk2
              --PART c2
              go_upto_region 21 with fail
              go_cut [12, 13] (fun s12 s13 wx => ∃ g10, s12 = .pointer (some ⟨g10, 0, none⟩) ∧ U32s wx 0 s13 (goneOf xn K) ∧ MidR wr g10 iv now (keptOf xn K) wx)
              case first =>
                go_region_held3 (fun w' => w'.cell? ⟨b7, 0, none⟩ = some (.bool true) ∧ w'.cell? ⟨b7, 1, none⟩ = some (.int .i64 iv) ∧ w'.cell? ⟨b7, 2, none⟩ = some (.int .i64 now) ∧ w'.cell? ⟨b7, 3, none⟩ = some (.slice ad nq cq) ∧ w'.cell? ⟨b, off + j * 3 + 1, none⟩ = some (.int .i64 xn)) (go_keep)
                  ((go_at_call 28; refine (rdiscard_any true iv now xn ad nq cq K _ (HKQ.out.below (by (with_reducible repeat (first | assumption | exact Below.refl _ _ | refine Below.setCell ?_ (by first | omega | (simp; done) | (simp; omega)) _ | refine Below.drew ?_ | refine bdrewN ?_ _ | refine Below.alloc ?_ (by first | omega | (simp; done) | (simp; omega)) _))))).mono ?_; rintro e w6 ⟨ad6, n6, c6, v6, rfl, hb6, k6, u6⟩; have hx6 : Below wr.heap.size wr w6 := bon (by (with_reducible repeat (first | assumption | exact Below.refl _ _ | refine Below.setCell ?_ (by first | omega | (simp; done) | (simp; omega)) _ | refine Below.drew ?_ | refine bdrewN ?_ _ | refine Below.alloc ?_ (by first | omega | (simp; done) | (simp; omega)) _))) (by simp) hb6; have t0 := (hx6.cell (p := ⟨b7, 0, none⟩) hb7).trans c0; have t1 := (hx6.cell (p := ⟨b7, 1, none⟩) hb7).trans c1; have t2 := (hx6.cell (p := ⟨b7, 2, none⟩) hb7).trans c2; have t3 := (hx6.cell (p := ⟨b7, 3, none⟩) hb7).trans c3; have t4 := (hx6.cell (p := ⟨b, off + j * 3 + 1, none⟩) hbr).trans o1; have t5 := (hx6.cell (p := ⟨b, off + j * 3 + 2, none⟩) hbr).trans o2; have hz6 := hb6.size; simp at hz6; have n1 : b7 ≠ w6.heap.size := (by omega); have n2 : w6.heap.size ≠ b7 := (by omega); have n3 : b ≠ w6.heap.size := (by omega); have n4 : w6.heap.size ≠ b := (by omega); obtain ⟨hc_w6, hf_w6⟩ := bcell hb6; have HX6 := Lib.hid hx6; have HB6 := Lib.hid hb6; have HK6 := Lib.hid k6; have HU6 := Lib.hid u6; obtain ⟨a6, e6, hv6, _, _⟩ := slice_len u6.row; subst hv6; clear hb6 k6 hx6 u6))
                · clear hc_w6 hf_w6
                  go_wp2_with fail
                  go_meet
                  exact ⟨_, rfl, U32s.below ((Below.refl _ _).alloc (Nat.le_refl _) _) HU6.out, mid_new (by (with_reducible repeat (first | assumption | exact Below.refl _ _ | refine Below.setCell ?_ (by first | omega | (simp; done) | (simp; omega)) _ | refine Below.drew ?_ | refine bdrewN ?_ _ | refine Below.alloc ?_ (by first | omega | (simp; done) | (simp; omega)) _))) HB6.out HK6.out⟩
                · clear hc_w6 hf_w6
                  go_wp2_with fail
                  go_meet
                  exact ⟨_, rfl, U32s.row' (mid_frame (by (with_reducible repeat (first | assumption | (refine Blk.newAt ?_; first | rfl | (simp; done)) | refine Blk.alloc ?_ _ | refine Blk.drew ?_ | refine Blk.other ?_ (by simp) _))) HB6.out) HU6.out rfl, mid_old (by (with_reducible repeat (first | assumption | exact Below.refl _ _ | refine Below.setCell ?_ (by first | omega | (simp; done) | (simp; omega)) _ | refine Below.drew ?_ | refine bdrewN ?_ _ | refine Below.alloc ?_ (by first | omega | (simp; done) | (simp; omega)) _))) (by (with_reducible repeat (first | assumption | (refine Blk.newAt ?_; first | rfl | (simp; done)) | refine Blk.alloc ?_ _ | refine Blk.drew ?_ | refine Blk.other ?_ (by simp) _))) HB6.out HK6.out⟩
              case rest =>
                obtain ⟨g10, rfl, hu, hM⟩ := hcut
                obtain ⟨a13, e13, hv13, _, _⟩ := slice_len hu.row
                subst hv13
                have HU := Lib.hid hu
                clear hu
                obtain ⟨hg10, hbc, ad6, n6, c6, kx, qx⟩ := hM; have K7 := Blk.below hbc HKB.out; obtain ⟨⟨e0, h0⟩, ⟨e1, h1⟩, ⟨e2, h2⟩, e3, h3⟩ := K7.c4; obtain ⟨⟨i0, _⟩, ⟨i1, _⟩, ⟨i2, _⟩, i3, _⟩ := kx.c4; have hSR := set_end (now' := now) HB.out HKP.out HKB.out hw7 hbc qx; have HF7 := Lib.hid (K7.set4 (.bool true) (.int .i64 iv) (.int .i64 now) (.slice ad6 n6 c6)).2; have HSR := Lib.hid hSR; have HBC := Lib.hid hbc; have HKX := Lib.hid kx; clear hSR K7 kx qx hbc
                go_upto_region 23 with fail
                generalize ((((wc.setCell ⟨b7, 0, none⟩ (.bool true)).setCell ⟨b7, 1, none⟩ (.int .i64 iv)).setCell ⟨b7, 2, none⟩ (.int .i64 now)).setCell ⟨b7, 3, none⟩ (.slice ad6 n6 c6)) = w8 at *
                obtain ⟨hb8, kp8, ad8, n8, c8, kb8, kq8⟩ := HSR.out
                have o1n := (hb8.cell (p := ⟨b, off + j * 3 + 1, none⟩) hbl).trans HO1.out
                have HKP8 := Lib.hid kp8
                have hb8s := hb8.size
                clear hb8 kp8 kb8 kq8
                clear o1 o2 c0 c1 c2 c3 f0 f1 f2 f3 e0 e1 e2 e3 h0 h1 h2 h3 i0 i1 i2 i3 o0
                go_wp2_with fail
                refine (pdiscard_any B p iv now xn K _ HKP8.out).mono ?_; rintro e w9 ⟨v9, rfl, hf9, k9, u9⟩
                have HU9 := Lib.hid ((HU.out.row' HF7.out rfl).row' hf9 rfl)
                obtain ⟨a9, e9, hv9, _, _⟩ := slice_len u9.row
                subst hv9
                have HF9 := Lib.hid hf9
                have HK9 := Lib.hid k9
                have HV9 := Lib.hid u9
                have hgl := HKP8.out.gone_len xn
                clear hf9 k9 u9
                go_wp2_with fail
                refine (numbers_same a9 a13 e9 e13 (goneOf xn K) w9 HV9.out.rd HU9.out.rd hgl).mono ?_; rintro e w10 ⟨rfl, hb10⟩
                have HB10 := Lib.hid hb10
                clear hb10
                go_wp2_with fail
                go_meet
                exact play_end HSR.out (HF9.out.trans (FrT.ofBelow HB10.out _ _)) (HK9.out.below HB10.out) hBw ⟨hn0, hn1⟩
              --END c2
            · have hk1b : (xk == 1) = false := by simpa using hk1
              have hk2b : (xk == 2) = false := by simpa using hk2
              obtain ⟨T, hT⟩ : ∃ T, tickT now xn = T := ⟨_, rfl⟩
              have hTr := tickT_rng xn ⟨hn0, hn1⟩
              have hC := fun W (h : Below wr.heap.size wr W) => rtick_any iv now xn ad nq cq K W (HKQ.out.below h) hi ⟨hn0, hn1⟩ HO.out.n
              rw [hT] at hTr
              simp only [hT] at hC
              obtain ⟨dl, hdl⟩ : ∃ d, tickO iv now xn K = d := ⟨_, rfl⟩
              simp only [hdl] at hC
              have HC := Lib.hid hC
              have HT := Lib.hid hT
              have HDL := Lib.hid hdl
              clear hC hT hdl
              --PART c3
              go_upto_region 11 with fail
              go_cut [14, 15] (fun s14 s15 wx => ∃ g10, s14 = .pointer (some ⟨g10, 0, none⟩) ∧ wx.ownsRow 0 48 9 s15 dl.length (dlCells dl) ∧ MidR wr g10 iv T (tickK iv now xn K) wx)
              case first =>
                go_region_held3 (fun w' => w'.cell? ⟨b7, 0, none⟩ = some (.bool true) ∧ w'.cell? ⟨b7, 1, none⟩ = some (.int .i64 iv) ∧ w'.cell? ⟨b7, 2, none⟩ = some (.int .i64 now) ∧ w'.cell? ⟨b7, 3, none⟩ = some (.slice ad nq cq) ∧ w'.cell? ⟨b, off + j * 3 + 1, none⟩ = some (.int .i64 xn)) (go_keep)
                  ((go_at_call 31; refine (HC.out _ (by (with_reducible repeat (first | assumption | exact Below.refl _ _ | refine Below.setCell ?_ (by first | omega | (simp; done) | (simp; omega)) _ | refine Below.drew ?_ | refine bdrewN ?_ _ | refine Below.alloc ?_ (by first | omega | (simp; done) | (simp; omega)) _)))).mono ?_; rintro e w6 ⟨ad6, n6, c6, v6, rfl, hb6, k6, u6⟩; have hx6 : Below wr.heap.size wr w6 := bon (by (with_reducible repeat (first | assumption | exact Below.refl _ _ | refine Below.setCell ?_ (by first | omega | (simp; done) | (simp; omega)) _ | refine Below.drew ?_ | refine bdrewN ?_ _ | refine Below.alloc ?_ (by first | omega | (simp; done) | (simp; omega)) _))) (by simp) hb6; have t0 := (hx6.cell (p := ⟨b7, 0, none⟩) hb7).trans c0; have t1 := (hx6.cell (p := ⟨b7, 1, none⟩) hb7).trans c1; have t2 := (hx6.cell (p := ⟨b7, 2, none⟩) hb7).trans c2; have t3 := (hx6.cell (p := ⟨b7, 3, none⟩) hb7).trans c3; have t4 := (hx6.cell (p := ⟨b, off + j * 3 + 1, none⟩) hbr).trans o1; have t5 := (hx6.cell (p := ⟨b, off + j * 3 + 2, none⟩) hbr).trans o2; have hz6 := hb6.size; simp at hz6; have n1 : b7 ≠ w6.heap.size := (by omega); have n2 : w6.heap.size ≠ b7 := (by omega); have n3 : b ≠ w6.heap.size := (by omega); have n4 : w6.heap.size ≠ b := (by omega); obtain ⟨hc_w6, hf_w6⟩ := bcell hb6; have HX6 := Lib.hid hx6; have HB6 := Lib.hid hb6; have HK6 := Lib.hid k6; have HU6 := Lib.hid u6; obtain ⟨a6, e6, hv6, _, _⟩ := slice_len u6; subst hv6; clear hb6 k6 hx6 u6))
                · clear hc_w6 hf_w6
                  go_wp2_with fail
                  go_meet
                  exact ⟨_, rfl, HU6.out.alloc _, mid_new (by (with_reducible repeat (first | assumption | exact Below.refl _ _ | refine Below.setCell ?_ (by first | omega | (simp; done) | (simp; omega)) _ | refine Below.drew ?_ | refine bdrewN ?_ _ | refine Below.alloc ?_ (by first | omega | (simp; done) | (simp; omega)) _))) HB6.out HK6.out⟩
                · clear hc_w6 hf_w6
                  go_wp2_with fail
                  go_meet
                  exact ⟨_, rfl, (mid_frame (by (with_reducible repeat (first | assumption | (refine Blk.newAt ?_; first | rfl | (simp; done)) | refine Blk.alloc ?_ _ | refine Blk.drew ?_ | refine Blk.other ?_ (by simp) _))) HB6.out).row HU6.out (.inl rfl), mid_old (by (with_reducible repeat (first | assumption | exact Below.refl _ _ | refine Below.setCell ?_ (by first | omega | (simp; done) | (simp; omega)) _ | refine Below.drew ?_ | refine bdrewN ?_ _ | refine Below.alloc ?_ (by first | omega | (simp; done) | (simp; omega)) _))) (by (with_reducible repeat (first | assumption | (refine Blk.newAt ?_; first | rfl | (simp; done)) | refine Blk.alloc ?_ _ | refine Blk.drew ?_ | refine Blk.other ?_ (by simp) _))) HB6.out HK6.out⟩
              case rest =>
                obtain ⟨g10, rfl, hu, hM⟩ := hcut
                obtain ⟨a13, e13, hv13, _, _⟩ := slice_len hu
                subst hv13
                have HU := Lib.hid hu
                clear hu
                obtain ⟨hg10, hbc, ad6, n6, c6, kx, qx⟩ := hM; have K7 := Blk.below hbc HKB.out; obtain ⟨⟨e0, h0⟩, ⟨e1, h1⟩, ⟨e2, h2⟩, e3, h3⟩ := K7.c4; obtain ⟨⟨i0, _⟩, ⟨i1, _⟩, ⟨i2, _⟩, i3, _⟩ := kx.c4; have hSR := set_end (now' := T) HB.out HKP.out HKB.out hw7 hbc qx; have HF7 := Lib.hid (K7.set4 (.bool true) (.int .i64 iv) (.int .i64 T) (.slice ad6 n6 c6)).2; have HSR := Lib.hid hSR; have HBC := Lib.hid hbc; have HKX := Lib.hid kx; clear hSR K7 kx qx hbc
                go_upto_region 13 with fail
                generalize ((((wc.setCell ⟨b7, 0, none⟩ (.bool true)).setCell ⟨b7, 1, none⟩ (.int .i64 iv)).setCell ⟨b7, 2, none⟩ (.int .i64 T)).setCell ⟨b7, 3, none⟩ (.slice ad6 n6 c6)) = w8 at *
                obtain ⟨hb8, kp8, ad8, n8, c8, kb8, kq8⟩ := HSR.out
                have o1n := (hb8.cell (p := ⟨b, off + j * 3 + 1, none⟩) hbl).trans HO1.out
                have HKP8 := Lib.hid kp8
                have hb8s := hb8.size
                clear hb8 kp8 kb8 kq8
                clear o1 o2 c0 c1 c2 c3 f0 f1 f2 f3 e0 e1 e2 e3 h0 h1 h2 h3 i0 i1 i2 i3 o0
                go_wp2_with fail
                refine (ptick_any B p iv now xn K _ HKP8.out HO.out.n).mono ?_; rintro e w9 ⟨v9, rfl, hf9, k9, u9⟩
                rw [HDL.out] at u9
                rw [HT.out] at k9
                have HU9 := Lib.hid (hf9.row (HF7.out.row HU.out (.inl rfl)) (.inl rfl))
                obtain ⟨a9, e9, hv9, _, _⟩ := slice_len u9
                subst hv9
                have HF9 := Lib.hid hf9
                have HK9 := Lib.hid k9
                have HV9 := Lib.hid u9
                clear hf9 k9 u9
                go_wp2_with fail
                refine (deliveries_same 0 0 _ _ dl w9 HV9.out HU9.out).mono ?_; rintro e w10 ⟨rfl, hb10⟩
                have HB10 := Lib.hid hb10
                clear hb10
                go_wp2_with fail
                go_meet
                exact play_end HSR.out (HF9.out.trans (FrT.ofBelow HB10.out _ _)) (HK9.out.below HB10.out) hBw hTr
              --END c3
        case rest =>
          --PART r
          obtain ⟨hb, now2, ad2, n2, c2', K2, hm0, hm1, kp2, kb2, kq2⟩ := hcut
          have hn2 := kq2.len.1
          have hP1 : ∀ W, Below wc.heap.size wc W → Calls Try.prog 22 #[.pointer (some ⟨p, 0, none⟩)] W fun e w' => e = .returned (.int .i64 n2) ∧ Below W.heap.size W w' := fun W hW => by rw [kq2.1]; exact ppending_any _ _ _ _ _ _ (kp2.below hW)
          have hP2 : ∀ W, Below wc.heap.size wc W → Calls Try.prog 24 #[.pointer (some ⟨p, 0, none⟩)] W fun e w' => e = .returned (.int .i64 (now2 / iv)) ∧ Below W.heap.size W w' := fun W hW => psequence_any _ _ _ _ _ _ (kp2.below hW)
          have hP3 : ∀ W, Below wc.heap.size wc W → Calls Try.prog 18 #[.pointer (some ⟨p, 0, none⟩), .int .i64 xn] W fun e w' => e = .returned (.int .i64 (nxt iv xn)) ∧ Below W.heap.size W w' := fun W hW => pnext_any _ _ _ _ _ _ _ (kp2.below hW) hs
          have o1n := (hb.cell (p := ⟨b, off + j * 3 + 1, none⟩) hbl).trans HO1.out
          have HPR : Hid (PlayR w B p b7 iv wc) := ⟨hb, now2, ad2, n2, c2', K2, hm0, hm1, kp2, kb2, kq2⟩
          obtain ⟨⟨e0, _⟩, ⟨e1, _⟩, ⟨e2, _⟩, e3, _⟩ := kb2.c4
          have g0 := cell_regrown e0
          have g1 := cell_regrown e1
          have g2 := cell_regrown e2
          have g3 := cell_regrown e3
          have g4 := cell_regrown o1n
          have HP1 := Lib.hid hP1
          have HP2 := Lib.hid hP2
          have HP3 := Lib.hid hP3
          clear hP1 hP2 hP3 hb kp2 kb2 kq2
          go_upto_region 25 with fail
          (refine wp_region_calm 28 [] [false, false, false, false, false, false, false, false, false, false, false, false, false, false, false, false, false, false, false, false, false, false, false, false, false, false, false, false] (by kernel_rfl) (by kernel_rfl) (by decide) (freshOk_of (by kernel_rfl) (by kernel_rfl) (fun x hx => by cases hx)) ?_; simp only [List.take_succ_cons, List.take_zero, List.drop_succ_cons, List.drop_zero, List.zip_cons_cons, List.zip_nil_left, List.zip_nil_right]; (repeat (first | refine wpCalm_pass ?_ | (refine wpCalm_step (fun K hK => ?_); go_simp; first | (refine hK _ ?_; clear hK K) | (apply Exists.intro; refine ⟨fun _ => ?_, hK _ ?_⟩; (first | exact HP1.out _ (below_regrown _ _ _) | exact HP2.out _ (below_regrown _ _ _) | exact HP3.out _ (below_regrown _ _ _) | exact rpending_ok _ _ _ _ _ _ _ hn2 | exact rsequence_ok _ _ _ _ _ _ hi ⟨hm0, hm1⟩ | exact rnext_ok _ _ _ _ _ _ _ hi hs); clear hK K)))); (first | refine wpCalm_nil ?_ | skip))
          intro F wx hF
          obtain rfl := hF.nil
          have hB2 : Below wc.heap.size wc wx := hF.below
          have HB2 := Lib.hid hB2
          clear g0 g1 g2 g3 g4 HP1 HP2 HP3 hF hB2 e0 e1 e2 e3
          unfold putL
          go_wp2_with fail
          go_roundg (n - (j + 1))
          case measure => omega
          case rel => exact ⟨j + 1, by omega, by omega, by first | rfl | simp, HPR.out.below HB2.out⟩
          --END r
      · --PART x
        obtain rfl : n = j := by omega
        go_wp2_with fail
        refine (ex30_true _).mono ?_; rintro e w3 ⟨rfl, hb3⟩
        have hB3 := bon hB hB.size hb3
        clear hb3
        go_wp2_with fail
        go_ret
        exact ⟨rfl, hB3⟩
        --END x
end Go.Proofs.Ytijfldgkmbhdoaa
