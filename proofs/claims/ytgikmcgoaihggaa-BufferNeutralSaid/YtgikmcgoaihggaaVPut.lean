/- The reference's put, where both buffers are valid. -/
import Derived.Test.YtgikmcgoaihggaaOver
import Derived.Test.YtgikmcgoaihggaaLbClone
import Derived.Deep.RegionHeld3
import Derived.IntWalk
set_option linter.unusedVariables false
set_option linter.unusedSimpArgs false
namespace Go.Proofs.Ytgikmcgoaihggaa
open Go.RowKit Go.Sort
attribute [local go_sem ↓] Go.wp_at_zero Go.wp_at_succ
attribute [local go_sem] calm calmAt calmUpon

/-- The variables, and the row that is filled. -/
structure PutI (w : World) (W H SW SH : Nat) (Ad As : Value) (n tb g c : Nat) (l : List Px) (wr : World) : Prop where
  below : Below w.heap.size w wr
  kd : Blk wr w.heap.size 27 #[.int .i64 W, .int .i64 H, Ad]
  ks : Blk wr (w.heap.size + 1) 27 #[.int .i64 SW, .int .i64 SH, As]
  kr : Blk wr (w.heap.size + 1 + 1) 27 #[.int .i64 0, .int .i64 0, .slice none 0 0]
  ko : Blk wr tb 27 #[.int .i64 W, .int .i64 H, .slice (some ⟨g, 0, none⟩) n c]
  own : wr.ownsRow w.heap.size 43 4 (.slice (some ⟨g, 0, none⟩) n c) n (pxCells l)
  len : l.length = n
  lt : w.heap.size + 1 + 1 < tb
theorem PutI.grow {w wr w' : World} {W H SW SH : Nat} {Ad As : Value} {n tb g c : Nat} {l l' : List Px} (h : PutI w W H SW SH Ad As n tb g c l wr) (hf : FrT w.heap.size [43] wr w')
    (ho : w'.ownsRow w.heap.size 43 4 (.slice (some ⟨g, 0, none⟩) n c) n (pxCells l')) (hl : l'.length = n) : PutI w W H SW SH Ad As n tb g c l' w' :=
  ⟨h.below.trans (hf.toBelow h.below.size), hf.blk h.kd (.inr rfl), hf.blk h.ks (.inr rfl), hf.blk h.kr (.inr rfl), hf.blk h.ko (.inr rfl), ho, hl, h.lt⟩
theorem PutI.mono {w wr w' : World} {W H SW SH : Nat} {Ad As : Value} {n tb g c : Nat} {l : List Px} (h : PutI w W H SW SH Ad As n tb g c l wr) (hb : Below wr.heap.size wr w') : PutI w W H SW SH Ad As n tb g c l w' :=
  h.grow (FrT.ofBelow hb _ _) ((FrT.ofBelow hb 0 []).row h.own (.inl rfl)) h.len
theorem PutI.put {w wr : World} {W H SW SH : Nat} {Ad As : Value} {n tb g c : Nat} {l : List Px} (h : PutI w W H SW SH Ad As n tb g c l wr) {j : Nat} (hj : j < n) (p : Px) :
    PutI w W H SW SH Ad As n tb g c (l.set j p) ((((wr.setCell ⟨g, j * 4, none⟩ (.int .u8 p.r)).setCell ⟨g, j * 4 + 1, none⟩ (.int .u8 p.g)).setCell ⟨g, j * 4 + 2, none⟩ (.int .u8 p.b)).setCell ⟨g, j * 4 + 3, none⟩ (.int .u8 p.a)) := by
  obtain ⟨h1, h2⟩ := OwnP.put h.own h.len.symm hj p
  exact h.grow h2 h1 (by rw [List.length_set]; exact h.len)
/-- A pixel's variable, stored. -/
theorem PutI.other {w wr : World} {W H SW SH : Nat} {Ad As : Value} {n tb g c : Nat} {l : List Px} (h : PutI w W H SW SH Ad As n tb g c l wr) {i : Nat} {a b e k : Value} (K : Blk wr i 43 #[a, b, e, k]) (hi : g < i) (hw : w.heap.size ≤ i) (x y z u : Value) :
    PutI w W H SW SH Ad As n tb g c l ((((wr.setCell ⟨i, 0, none⟩ x).setCell ⟨i, 1, none⟩ y).setCell ⟨i, 2, none⟩ z).setCell ⟨i, 3, none⟩ u) := by
  have h1 := K.set 0 x
  have h2 := h1.set 1 y
  have h3 := h2.set 2 z
  have he : [43].contains 43 = true := by simp
  have f1 : FrT i [43] wr (wr.setCell ⟨i, 0, none⟩ x) := (FrT.refl i [43] wr).set K he (Nat.le_refl _) x
  have f2 := f1.set (p := ⟨i, 1, none⟩) h1 he (Nat.le_refl _) y
  have f3 := f2.set (p := ⟨i, 2, none⟩) h2 he (Nat.le_refl _) z
  have f4 := f3.set (p := ⟨i, 3, none⟩) h3 he (Nat.le_refl _) u
  generalize (((wr.setCell ⟨i, 0, none⟩ x).setCell ⟨i, 1, none⟩ y).setCell ⟨i, 2, none⟩ z).setCell ⟨i, 3, none⟩ u = w' at f4 ⊢
  have ho := f4.row h.own (.inr fun q hq => by simp only [Value.ownBlock, Option.some.injEq] at hq; omega)
  exact h.grow (f4.mono hw (fun _ h => h)) ho h.len
set_option maxRecDepth 100000 in
set_option maxHeartbeats 4000000 in
theorem vput_run (W H SW SH : Nat) (Ad As : Option Addr) (d s : List Px) (c1 c2 : Nat) (x y : Int) (bl : Bool) (w : World) (rd : Rdp w Ad d) (rs : Rdp w As s) (hd : d.length = H * W) (hs : s.length = SH * SW)
    (hW : 1 ≤ W ∧ W ≤ 256) (hH : 1 ≤ H ∧ H ≤ 256) (hSW : 1 ≤ SW ∧ SW ≤ 256) (hSH : 1 ≤ SH ∧ SH ≤ 256) (kd : bufB W H d = true) (ks : bufB SW SH s = true) (okd : PxsOk d) (oks : PxsOk s) :
    Calls Try.prog 61 #[bufv W H (.slice Ad d.length c1), bufv SW SH (.slice As s.length c2), .int .i64 x, .int .i64 y, .bool bl] w (BufE w (W, H, putM (bif bl then bld else cpy) d s W SW SH x y d.length) 0) := by
  have hHW := Nat.mul_le_mul hH.2 hW.2
  have hSHW := Nat.mul_le_mul hSH.2 hSW.2
  have hHW1 := Nat.mul_le_mul hH.1 hW.1
  have hSHW1 := Nat.mul_le_mul hSH.1 hSW.1
  have hVd := fun W0 (hb : Below w.heap.size w W0) => vvalid_any W H Ad d c1 W0 (rd.below hb) (by omega)
  rw [kd] at hVd
  have hVs := fun W0 (hb : Below w.heap.size w W0) => vvalid_any SW SH As s c2 W0 (rs.below hb) (by omega)
  rw [ks] at hVs
  have hAd := fun W0 (hb : Below w.heap.size w W0) (i j : Int) => vat_any W H i j Ad d c1 W0 (rd.below hb) (by omega)
  have hAs := fun W0 (hb : Below w.heap.size w W0) (i j : Int) => vat_any SW SH i j As s c2 W0 (rs.below hb) (by omega)
  have hn0 : d.length = 0 → Ad = none → c1 = 0 := fun h => by omega
  have hsr := Rdp.src (c := c1) rd hn0
  rw [← putM_clamp hd hW hH.2 (show (SW : Int) ≤ 256 ∧ (SH : Int) ≤ 256 by omega)]
  obtain ⟨mx, hmx⟩ : ∃ m, (if 1000 < x then (1000 : Int) else x) = m := ⟨_, rfl⟩
  obtain ⟨my, hmy⟩ : ∃ m, (if 1000 < y then (1000 : Int) else y) = m := ⟨_, rfl⟩
  obtain ⟨cx, hcx⟩ : ∃ m, (if -1000 < mx then mx else (-1000 : Int)) = m := ⟨_, rfl⟩
  obtain ⟨cy, hcy⟩ : ∃ m, (if -1000 < my then my else (-1000 : Int)) = m := ⟨_, rfl⟩
  rw [show max (-1000) (min x 1000) = cx by omega, show max (-1000) (min y 1000) = cy by omega]
  have bx : -1000 ≤ cx ∧ cx ≤ 1000 := by omega
  have by' : -1000 ≤ cy ∧ cy ≤ 1000 := by omega
  obtain ⟨f, hf⟩ : ∃ f, (bif bl then bld else cpy) = f := ⟨_, rfl⟩
  rw [hf]
  obtain ⟨n, hn⟩ : ∃ n, d.length = n := ⟨_, rfl⟩
  obtain ⟨ns, hns⟩ : ∃ n, s.length = n := ⟨_, rfl⟩
  rw [hn] at hVd hAd hsr hd ⊢
  rw [hns] at hVs hAs hs ⊢
  have hnp : 0 < n := by omega
  have hA1 : 0 + n ≤ 1000000 := by omega
  have HVd := Lib.hid hVd
  have HVs := Lib.hid hVs
  have HAd := Lib.hid hAd
  have HAs := Lib.hid hAs
  have HSR := Lib.hid hsr
  have HN := Lib.hid hn
  have HNS := Lib.hid hns
  have HD := Lib.hid hd
  have HS := Lib.hid hs
  have HF := Lib.hid hf
  clear hVd hVs hAd hAs hsr hn hns hd hs hf kd ks rd rs hn0
  go_enter Try.func61, Try.ntmps61
  go_wp2_with fail
  refine (HVd.out _ (by (with_reducible repeat (first | assumption | exact Below.refl _ _ | refine Below.setCell ?_ (by first | omega | (simp; done) | (simp; omega)) _ | refine Below.drew ?_ | refine bdrewN ?_ _ | refine Below.alloc ?_ (by first | omega | (simp; done) | (simp; omega)) _)))).mono ?_; rintro e w2 ⟨rfl, hb_w2⟩
  have hB2 : Below w.heap.size w w2 := bon (by (with_reducible repeat (first | assumption | exact Below.refl _ _ | refine Below.setCell ?_ (by first | omega | (simp; done) | (simp; omega)) _ | refine Below.drew ?_ | refine bdrewN ?_ _ | refine Below.alloc ?_ (by first | omega | (simp; done) | (simp; omega)) _))) (by simp; try omega) hb_w2
  have K5 : Blk w2 (w.heap.size) 27 #[.int .i64 W, .int .i64 H, .slice Ad n c1] := Blk.below hb_w2 (by (with_reducible repeat (first | assumption | (refine Blk.newAt ?_; first | rfl | (simp; done)) | refine Blk.alloc ?_ _ | refine Blk.drew ?_ | refine Blk.other ?_ (by simp) _)))
  have K6 : Blk w2 (w.heap.size + 1) 27 #[.int .i64 SW, .int .i64 SH, .slice As ns c2] := Blk.below hb_w2 (by (with_reducible repeat (first | assumption | (refine Blk.newAt ?_; first | rfl | (simp; done)) | refine Blk.alloc ?_ _ | refine Blk.drew ?_ | refine Blk.other ?_ (by simp) _)))
  have K10 : Blk w2 (w.heap.size + 1 + 1) 27 #[.int .i64 0, .int .i64 0, .slice none 0 0] := Blk.below hb_w2 (by (with_reducible repeat (first | assumption | (refine Blk.newAt ?_; first | rfl | (simp; done)) | refine Blk.alloc ?_ _ | refine Blk.drew ?_ | refine Blk.other ?_ (by simp) _)))
  have HK5 := Lib.hid K5
  have HK6 := Lib.hid K6
  have HK10 := Lib.hid K10
  obtain ⟨⟨d0, _⟩, ⟨d1, _⟩, d2, _⟩ := K6.c3
  clear hb_w2 K5 K6 K10
  go_wp2_with fail
  refine (HVs.out _ hB2).mono ?_; rintro e w3 ⟨rfl, hb_w3⟩
  have hB3 : Below w.heap.size w w3 := bon hB2 hB2.size hb_w3
  have K5 := Blk.below hb_w3 HK5.out
  have K6 := Blk.below hb_w3 HK6.out
  have K10 := Blk.below hb_w3 HK10.out
  clear HK5 HK6 HK10 d0 d1 d2 hb_w3 hB2 HVd HVs
  go_upto_region 3 with fail
  go_cut [12] (fun s12 wx => ∃ tb g cc, s12 = .pointer (some ⟨tb, 0, none⟩) ∧ PutI w W H SW SH (.slice Ad n c1) (.slice As ns c2) n tb g cc d wx)
  case first =>
    obtain ⟨⟨d0, _⟩, ⟨d1, _⟩, d2, _⟩ := K5.c3
    have hz5 : w.heap.size < w3.heap.size := K5.lt
    have hz6 : w.heap.size + 1 < w3.heap.size := K6.lt
    have hz10 : w.heap.size + 1 + 1 < w3.heap.size := K10.lt
    have hzB : w.heap.size ≤ w3.heap.size := Nat.le_of_lt hz5
    have hx1 : w.heap.size ≠ w3.heap.size := Nat.ne_of_lt hz5
    have hx4 : w.heap.size ≠ w3.heap.size + 1 := by omega
    have hx5 : w3.heap.size + 1 ≠ w.heap.size := by omega
    have hx6 : w3.heap.size ≠ w.heap.size := by omega
    have hx2 : w.heap.size + 1 ≠ w3.heap.size := Nat.ne_of_lt hz6
    have hx3 : w.heap.size + 1 + 1 ≠ w3.heap.size := Nat.ne_of_lt hz10
    have HB3 := Lib.hid hB3
    have HK5 := Lib.hid K5
    have HK6 := Lib.hid K6
    have HK10 := Lib.hid K10
    clear K5 K6 K10 hB3
    go_region_held3 (fun w' => w'.cell? ⟨w.heap.size, 0, none⟩ = some (.int .i64 W) ∧ w'.cell? ⟨w.heap.size, 1, none⟩ = some (.int .i64 H) ∧ w'.cell? ⟨w.heap.size, 2, none⟩ = some (.slice Ad n c1)) (go_keep)
      ((first
        | (refine step_app _ [43] rfl el_px (.tmp 29) (.tmp 31) rfl w.heap.size (.slice (some ⟨w3.heap.size, 0, none⟩) 0 0) 0 [] rfl (ownsRow_empty rfl hzB).drew (.slice Ad n c1) n (pxCells d) rfl (Src.below ((HB3.out.alloc hzB _).drew) HSR.out) hA1 (by decide) (by simp; omega) rfl ?_; intro v7 w7 hr7 hf7;  have K5' := hf7.blk (Blk.drew (Blk.alloc (HK5.out) _)) (.inr rfl); have K6' := hf7.blk (Blk.drew (Blk.alloc (HK6.out) _)) (.inr rfl); have K10' := hf7.blk (Blk.drew (Blk.alloc (HK10.out) _)) (.inr rfl); obtain ⟨⟨d0, _⟩, ⟨d1, _⟩, d2, _⟩ := K5'.c3; simp only [Nat.zero_add, List.nil_append] at hr7; obtain ⟨g7, e7, hv7, _, _⟩ := own_px hr7 hnp; subst hv7; have HR7 := Lib.hid hr7; have HB7 := Lib.hid (hf7.toBelow (by simp; omega)); have HK5' := Lib.hid K5'; have HK6' := Lib.hid K6'; have HK10' := Lib.hid K10'; clear hr7 hf7 K5' K6' K10')
        | (refine step_app _ [43] rfl el_px (.tmp 29) (.tmp 31) rfl w.heap.size (.slice (some ⟨w3.heap.size, 0, none⟩) 0 0) 0 [] rfl ((ownsRow_empty rfl hzB).alloc _).drew (.slice Ad n c1) n (pxCells d) rfl (Src.below (((HB3.out.alloc hzB _).alloc (by simp; omega) _).drew) HSR.out) hA1 (by decide) (by simp; omega) rfl ?_; intro v7 w7 hr7 hf7; have Kt := hf7.blk (Blk.drew (Blk.newAt (w := w3.alloc (.cells #[] 43)) (n := w3.heap.size + 1) (e := 27) (cs := #[.int .i64 0, .int .i64 0, .slice none 0 0]) (by simp))) (.inr rfl); obtain ⟨⟨t0, u0⟩, ⟨t1, u1⟩, t2, u2⟩ := Kt.c3; have HKt := Lib.hid Kt; clear Kt; have K5' := hf7.blk (Blk.drew (Blk.alloc (Blk.alloc (HK5.out) _) _)) (.inr rfl); have K6' := hf7.blk (Blk.drew (Blk.alloc (Blk.alloc (HK6.out) _) _)) (.inr rfl); have K10' := hf7.blk (Blk.drew (Blk.alloc (Blk.alloc (HK10.out) _) _)) (.inr rfl); obtain ⟨⟨d0, _⟩, ⟨d1, _⟩, d2, _⟩ := K5'.c3; simp only [Nat.zero_add, List.nil_append] at hr7; obtain ⟨g7, e7, hv7, _, _⟩ := own_px hr7 hnp; subst hv7; have HR7 := Lib.hid hr7; have HB7 := Lib.hid (hf7.toBelow (by simp; omega)); have HK5' := Lib.hid K5'; have HK6' := Lib.hid K6'; have HK10' := Lib.hid K10'; clear hr7 hf7 K5' K6' K10')
        | (refine step_app _ [43] rfl el_px (.tmp 29) (.tmp 31) rfl w.heap.size (.slice (some ⟨w3.heap.size + 1, 0, none⟩) 0 0) 0 [] rfl (ownsRow_empty (by simp) (by omega)).drew (.slice Ad n c1) n (pxCells d) rfl (Src.below (((HB3.out.alloc hzB _).alloc (by simp; omega) _).drew) HSR.out) hA1 (by decide) (by simp; omega) rfl ?_; intro v7 w7 hr7 hf7; have Kt := hf7.blk (Blk.drew (Blk.alloc (Blk.newAt (w := w3) (n := w3.heap.size) (e := 27) (cs := #[.int .i64 0, .int .i64 0, .slice none 0 0]) rfl) _)) (.inr rfl); obtain ⟨⟨t0, u0⟩, ⟨t1, u1⟩, t2, u2⟩ := Kt.c3; have HKt := Lib.hid Kt; clear Kt; have K5' := hf7.blk (Blk.drew (Blk.alloc (Blk.alloc (HK5.out) _) _)) (.inr rfl); have K6' := hf7.blk (Blk.drew (Blk.alloc (Blk.alloc (HK6.out) _) _)) (.inr rfl); have K10' := hf7.blk (Blk.drew (Blk.alloc (Blk.alloc (HK10.out) _) _)) (.inr rfl); obtain ⟨⟨d0, _⟩, ⟨d1, _⟩, d2, _⟩ := K5'.c3; simp only [Nat.zero_add, List.nil_append] at hr7; obtain ⟨g7, e7, hv7, _, _⟩ := own_px hr7 hnp; subst hv7; have HR7 := Lib.hid hr7; have HB7 := Lib.hid (hf7.toBelow (by simp; omega)); have HK5' := Lib.hid K5'; have HK6' := Lib.hid K6'; have HK10' := Lib.hid K10'; clear hr7 hf7 K5' K6' K10')))
    · go_wp2_with fail
      go_meet
      have hB7 := Below.trans (show Below w.heap.size w _ by have := HB3.out; (with_reducible repeat (first | assumption | exact Below.refl _ _ | refine Below.setCell ?_ (by first | omega | (simp; done) | (simp; omega)) _ | refine Below.drew ?_ | refine bdrewN ?_ _ | refine Below.alloc ?_ (by first | omega | (simp; done) | (simp; omega)) _))) HB7.out
      exact ⟨_, g7, e7, rfl, hB7.alloc (Nat.le_of_lt HK5'.out.lt) _, HK5'.out.alloc _, HK6'.out.alloc _, HK10'.out.alloc _, Blk.new _ _ _, HR7.out.alloc _, HN.out, HK10'.out.lt⟩
    · go_wp2_with fail
      go_meet
      have hB7 := Below.trans (show Below w.heap.size w _ by have := HB3.out; (with_reducible repeat (first | assumption | exact Below.refl _ _ | refine Below.setCell ?_ (by first | omega | (simp; done) | (simp; omega)) _ | refine Below.drew ?_ | refine bdrewN ?_ _ | refine Below.alloc ?_ (by first | omega | (simp; done) | (simp; omega)) _))) HB7.out
      obtain ⟨KE, FE⟩ := HKt.out.set3 (.int .i64 W) (.int .i64 H) (.slice (some ⟨g7, 0, none⟩) n e7)
      exact ⟨_, g7, e7, rfl, by (with_reducible repeat (first | assumption | exact Below.refl _ _ | refine Below.setCell ?_ (by first | omega | (simp; done) | (simp; omega)) _ | refine Below.drew ?_ | refine bdrewN ?_ _ | refine Below.alloc ?_ (by first | omega | (simp; done) | (simp; omega)) _)), (((HK5'.out.other (by simp; omega) _).other (by simp; omega) _).other (by simp; omega) _), (((HK6'.out.other (by simp; omega) _).other (by simp; omega) _).other (by simp; omega) _), (((HK10'.out.other (by simp; omega) _).other (by simp; omega) _).other (by simp; omega) _), KE, FE.row HR7.out (.inl rfl), HN.out, by omega⟩
    · go_wp2_with fail
      go_meet
      have hB7 := Below.trans (show Below w.heap.size w _ by have := HB3.out; (with_reducible repeat (first | assumption | exact Below.refl _ _ | refine Below.setCell ?_ (by first | omega | (simp; done) | (simp; omega)) _ | refine Below.drew ?_ | refine bdrewN ?_ _ | refine Below.alloc ?_ (by first | omega | (simp; done) | (simp; omega)) _))) HB7.out
      obtain ⟨KE, FE⟩ := HKt.out.set3 (.int .i64 W) (.int .i64 H) (.slice (some ⟨g7, 0, none⟩) n e7)
      exact ⟨_, g7, e7, rfl, by (with_reducible repeat (first | assumption | exact Below.refl _ _ | refine Below.setCell ?_ (by first | omega | (simp; done) | (simp; omega)) _ | refine Below.drew ?_ | refine bdrewN ?_ _ | refine Below.alloc ?_ (by first | omega | (simp; done) | (simp; omega)) _)), (((HK5'.out.other (by simp; omega) _).other (by simp; omega) _).other (by simp; omega) _), (((HK6'.out.other (by simp; omega) _).other (by simp; omega) _).other (by simp; omega) _), (((HK10'.out.other (by simp; omega) _).other (by simp; omega) _).other (by simp; omega) _), KE, FE.row HR7.out (.inl rfl), HN.out, by omega⟩
  case rest =>
  obtain ⟨tb, g, cc, rfl, hI⟩ := hcut
  have HI := Lib.hid hI
  clear hB3 K5 K6 K10 hI HSR
  go_wp2_with fail
  go_loopg [13] H (fun k s13 wr => ∃ j : Nat, k = H - j ∧ j ≤ H ∧ s13 = .int .i64 j ∧ PutI w W H SW SH (.slice Ad n c1) (.slice As ns c2) n tb g cc (putM f d s W SW SH cx cy (j * W)) wr)
  case atStart => exact ⟨0, by omega, by omega, rfl, by rw [Nat.zero_mul, putM_zero]; exact HI.out⟩
  case round =>
    obtain ⟨j, hk, hj, rfl, hI⟩ := hrel
    have HIj := Lib.hid hI
    by_cases hlt : j < H
    · obtain ⟨⟨d0, _⟩, ⟨d1, _⟩, d2, _⟩ := hI.kd.c3
      clear hI HI
      go_wp2_with fail
      go_loopg [14] W (fun k s14 wr => ∃ i : Nat, k = W - i ∧ i ≤ W ∧ s14 = .int .i64 i ∧ PutI w W H SW SH (.slice Ad n c1) (.slice As ns c2) n tb g cc (putM f d s W SW SH cx cy (j * W + i)) wr)
      case atStart => exact ⟨0, by omega, by omega, rfl, HIj.out⟩
      case round =>
        obtain ⟨i, hk2, hi, rfl, hI⟩ := hrel
        have HIi := Lib.hid hI
        obtain ⟨⟨d0, _⟩, ⟨d1, _⟩, d2, _⟩ := hI.kd.c3
        obtain ⟨⟨p0, _⟩, ⟨p1, _⟩, p2, _⟩ := hI.ks.c3
        by_cases hlti : i < W
        · by_cases hc : cov W SW SH cx cy (j * W + i)
          · have hq := idx_lt2 (W := W) (H := H) hlti hlt
            have hqn : j * W + i < n := by rw [HD.out]; exact hq
            have hqd : j * W + i < d.length := by rw [HN.out]; exact hqn
            have hsu := putM_succ (f := f) (s := s) (W := W) (sw := SW) (sh := SH) (x := cx) (y := cy) hqd
            rw [cov_at hlti] at hc
            obtain ⟨⟨a0, a1⟩, a2, a3⟩ := hc
            obtain ⟨u, hu⟩ : ∃ u : Nat, (i : Int) - cx = u := ⟨((i : Int) - cx).toNat, by omega⟩
            obtain ⟨v, hv⟩ : ∃ u : Nat, (j : Int) - cy = u := ⟨((j : Int) - cy).toNat, by omega⟩
            have hvs : v * SW + u < ns := by rw [HS.out]; exact idx_lt2 (by omega) (by omega)
            have hvs' : v * SW + u < s.length := by rw [HNS.out]; exact hvs
            rw [putG_in hlti hu hv (show u < SW by omega) (show v < SH by omega), getD_at hqd, getD_at hvs'] at hsu
            have hA := fun W0 hb => HAs.out W0 hb u v
            rw [atP_in2 hSW hSH (by omega) (by omega) (by rw [HNS.out]; exact HS.out) hvs'] at hA
            have hB := fun W0 hb => HAd.out W0 hb i j
            rw [atP_in2 hW hH hlti hlt (by rw [HN.out]; exact HD.out) hqd] at hB
            rw [← hu, ← hv] at hA
            have okp := ok_at oks hvs'
            have okq := ok_at okd hqd
            obtain ⟨P, hP⟩ : ∃ P, s[v * SW + u] = P := ⟨_, rfl⟩
            obtain ⟨D, hD'⟩ : ∃ D, d[j * W + i] = D := ⟨_, rfl⟩
            rw [hP] at hsu hA okp
            rw [hD'] at hsu hB okq
            obtain ⟨P0, P1, P2, P3⟩ := P
            obtain ⟨D0, D1, D2, D3⟩ := D
            simp only at hA hB
            obtain ⟨oP0, oP1, oP2, oP3⟩ := okp
            obtain ⟨oD0, oD1, oD2, oD3⟩ := okq
            simp only at oP0 oP1 oP2 oP3 oD0 oD1 oD2 oD3
            obtain ⟨lm, hlm⟩ : ∃ l, putM f d s W SW SH cx cy (j * W + i) = l := ⟨_, rfl⟩
            rw [hlm] at hsu HIi hI
            obtain ⟨m, hm⟩ : ∃ m : Nat, j * W + i = m := ⟨_, rfl⟩
            rw [hm] at hqn
            have hsu' : putM f d s W SW SH cx cy (j * W + (i + 1)) = lm.set m (f ⟨D0, D1, D2, D3⟩ ⟨P0, P1, P2, P3⟩) := by rw [← hm]; exact hsu
            have em : (j : Int) * (W : Int) + (i : Int) = (m : Int) := by rw [← hm]; simp
            have hjw : 0 ≤ (j : Int) * (W : Int) ∧ (j : Int) * (W : Int) ≤ 65536 := by
              have h := Nat.mul_le_mul (show j ≤ 256 by omega) hW.2
              have e : ((j * W : Nat) : Int) = (j : Int) * (W : Int) := by simp
              omega
            have HSU := Lib.hid hsu'
            have HM := Lib.hid hm
            have HA := Lib.hid hA
            have HB := Lib.hid hB
            have n1 : ¬ (i : Int) - cx < 0 := by omega
            have n2 : ¬ (SW : Int) ≤ (i : Int) - cx := by omega
            have n3 : ¬ (j : Int) - cy < 0 := by omega
            have n4 : ¬ (SH : Int) ≤ (j : Int) - cy := by omega
            clear hsu hsu' hm hA hB hP hD' hlm HIj hvs hvs' hu hv a0 a1 a2 a3 hq hqd
            go_wp2_with fail
            refine (HA.out _ (by have := HIi.out.below; (with_reducible repeat (first | assumption | exact Below.refl _ _ | refine Below.setCell ?_ (by first | omega | (simp; done) | (simp; omega)) _ | refine Below.drew ?_ | refine bdrewN ?_ _ | refine Below.alloc ?_ (by first | omega | (simp; done) | (simp; omega)) _)))).mono ?_; rintro e w5 ⟨rfl, hb5⟩
            have hI5 := HIi.out.mono (w' := w5) hb5
            obtain ⟨k0, k1, k2, k3⟩ := pxCells_get lm m (by rw [hI5.len]; exact hqn)
            obtain ⟨y0, r0⟩ : ∃ v, w5.cell? ⟨g, m * 4, none⟩ = some (.int .u8 v) := ⟨_, (hI5.own.cellAt (m * 4) (by omega)).trans k0⟩
            obtain ⟨y1, r1⟩ : ∃ v, w5.cell? ⟨g, m * 4 + 1, none⟩ = some (.int .u8 v) := ⟨_, (hI5.own.cellAt (m * 4 + 1) (by omega)).trans k1⟩
            obtain ⟨y2, r2⟩ : ∃ v, w5.cell? ⟨g, m * 4 + 2, none⟩ = some (.int .u8 v) := ⟨_, (hI5.own.cellAt (m * 4 + 2) (by omega)).trans k2⟩
            obtain ⟨y3, r3⟩ : ∃ v, w5.cell? ⟨g, m * 4 + 3, none⟩ = some (.int .u8 v) := ⟨_, (hI5.own.cellAt (m * 4 + 3) (by omega)).trans k3⟩
            have s0 := hI5.own.frozenAt (m * 4)
            have s1 := hI5.own.frozenAt (m * 4 + 1)
            have s2 := hI5.own.frozenAt (m * 4 + 2)
            have s3 := hI5.own.frozenAt (m * 4 + 3)
            have hg5 := World.block_lt_of_cell? w5 _ r0
            obtain ⟨⟨d0, _⟩, ⟨d1, _⟩, d2, _⟩ := hI5.kd.c3
            obtain ⟨⟨o0, _⟩, ⟨o1, _⟩, o2, _⟩ := hI5.ko.c3
            have hz5 := hI5.kd.lt
            have hzt := hI5.ko.lt
            have hnn : (m : Int) < (n : Int) := by omega
            have HI5 := Lib.hid hI5
            clear hI5 hI k0 k1 k2 k3 hb5 p0 p1 p2 HIi
            cases bl with
            | false =>
              go_wp2_with fail
              have hI7 := (HI5.out.put hqn ⟨P0, P1, P2, P3⟩).mono ((Below.refl _ _).alloc (Nat.le_refl _) (.cells #[.int .u8 P0, .int .u8 P1, .int .u8 P2, .int .u8 P3] 43))
              have hs : putM f d s W SW SH cx cy (j * W + (i + 1)) = lm.set m ⟨P0, P1, P2, P3⟩ := by rw [HSU.out, ← HF.out]; rfl
              rw [← hs] at hI7
              have HI7 := Lib.hid hI7
              clear hI7 hs
              go_roundg (W - (i + 1))
              case measure => omega
              case rel => exact ⟨i + 1, by omega, by omega, by first | rfl | simp, HI7.out⟩
            | true =>
              go_upto_region 14 with fail
              generalize hWd : World.alloc _ _ = w6
              have hb6 : Below w5.heap.size w5 w6 := by subst hWd; (with_reducible repeat (first | assumption | exact Below.refl _ _ | refine Below.setCell ?_ (by first | omega | (simp; done) | (simp; omega)) _ | refine Below.drew ?_ | refine bdrewN ?_ _ | refine Below.alloc ?_ (by first | omega | (simp; done) | (simp; omega)) _))
              have K15 : Blk w6 w5.heap.size 43 #[.int .u8 P0, .int .u8 P1, .int .u8 P2, .int .u8 P3] := by subst hWd; (with_reducible repeat (first | assumption | (refine Blk.newAt ?_; first | rfl | (simp; done)) | refine Blk.alloc ?_ _ | refine Blk.drew ?_ | refine Blk.other ?_ (by simp) _))
              have hI6 := HI5.out.mono hb6
              obtain ⟨⟨t0, u0⟩, ⟨t1, u1⟩, ⟨t2, u2⟩, t3, u3⟩ := K15.c4
              obtain ⟨⟨d0, _⟩, ⟨d1, _⟩, d2, _⟩ := hI6.kd.c3
              have g0 := cell_regrown t0
              have g1 := cell_regrown t1
              have g2 := cell_regrown t2
              have g3 := cell_regrown t3
              have g4 := cell_regrown d0
              have g5 := cell_regrown d1
              have g6 := cell_regrown d2
              have hB6 := hI6.below
              have HU := Lib.hid (fun d os => bon hB6 hB6.size (below_regrown w6 d os))
              have HI6 := Lib.hid hI6
              have HK15 := Lib.hid K15
              clear hWd hB6 hI6 K15 hb6 r0 r1 r2 r3 s0 s1 s2 s3 o0 o1 o2 hz5 hzt
              (refine wp_region_calm 6 [] [false, false, false, false, false, false] (by kernel_rfl) (by kernel_rfl) (by decide) (freshOk_of (by kernel_rfl) (by kernel_rfl) (fun x hx => by cases hx)) ?_; simp only [List.take_succ_cons, List.take_zero, List.drop_succ_cons, List.drop_zero, List.zip_cons_cons, List.zip_nil_left, List.zip_nil_right]; (repeat (first | refine wpCalm_pass ?_ | (refine wpCalm_step (fun K hK => ?_); go_simp; first | (refine hK _ ?_; clear hK K) | (apply Exists.intro; refine ⟨fun _ => ?_, hK _ ?_⟩; (first | (go_at_call 28; exact HB.out _ (HU.out _ _)) | (go_at_call 71; exact r8over_any P0 P1 P2 P3 D0 D1 D2 D3 _ oP0 oP1 oP2 oP3 oD0 oD1 oD2 oD3)); clear hK K)))); (first | refine wpCalm_nil ?_ | skip))
              intro F wz hF
              obtain rfl := hF.nil
              have hbz := hF.below
              clear g0 g1 g2 g3 g4 g5 g6 hF t0 t1 t2 t3 u0 u1 u2 u3 d0 d1 d2
              have K15 := Blk.below hbz HK15.out
              have hIz := HI6.out.mono hbz
              obtain ⟨⟨t0, u0⟩, ⟨t1, u1⟩, ⟨t2, u2⟩, t3, u3⟩ := K15.c4
              obtain ⟨k0, k1, k2, k3⟩ := pxCells_get lm m (by rw [hIz.len]; exact hqn)
              obtain ⟨y0, r0⟩ : ∃ v, wz.cell? ⟨g, m * 4, none⟩ = some (.int .u8 v) := ⟨_, (hIz.own.cellAt (m * 4) (by omega)).trans k0⟩
              obtain ⟨y1, r1⟩ : ∃ v, wz.cell? ⟨g, m * 4 + 1, none⟩ = some (.int .u8 v) := ⟨_, (hIz.own.cellAt (m * 4 + 1) (by omega)).trans k1⟩
              obtain ⟨y2, r2⟩ : ∃ v, wz.cell? ⟨g, m * 4 + 2, none⟩ = some (.int .u8 v) := ⟨_, (hIz.own.cellAt (m * 4 + 2) (by omega)).trans k2⟩
              obtain ⟨y3, r3⟩ : ∃ v, wz.cell? ⟨g, m * 4 + 3, none⟩ = some (.int .u8 v) := ⟨_, (hIz.own.cellAt (m * 4 + 3) (by omega)).trans k3⟩
              have s0 := hIz.own.frozenAt (m * 4)
              have s1 := hIz.own.frozenAt (m * 4 + 1)
              have s2 := hIz.own.frozenAt (m * 4 + 2)
              have s3 := hIz.own.frozenAt (m * 4 + 3)
              have hg6 := World.block_lt_of_cell? wz _ r0
              obtain ⟨⟨d0, _⟩, ⟨d1, _⟩, d2, _⟩ := hIz.kd.c3
              obtain ⟨⟨o0, _⟩, ⟨o1, _⟩, o2, _⟩ := hIz.ko.c3
              have ng : w5.heap.size ≠ g := by omega
              have ng' : g ≠ w5.heap.size := fun h => ng h.symm
              have nt : w5.heap.size ≠ tb := by have := HI5.out.ko.lt; omega
              have nd : w5.heap.size ≠ w.heap.size := by have := HI5.out.kd.lt; omega
              have HIz := Lib.hid hIz
              have HK15 := Lib.hid K15
              clear hIz K15 k0 k1 k2 k3
              unfold putL
              go_wp2_with fail
              have hI7 := (HIz.out.other HK15.out hg5 (by have := HI5.out.kd.lt; omega) (.int .u8 (min P0 P3 + prod8 (min D0 D3) (255 - P3))) (.int .u8 (min P1 P3 + prod8 (min D1 D3) (255 - P3))) (.int .u8 (min P2 P3 + prod8 (min D2 D3) (255 - P3))) (.int .u8 (P3 + prod8 D3 (255 - P3)))).put hqn ⟨min P0 P3 + prod8 (min D0 D3) (255 - P3), min P1 P3 + prod8 (min D1 D3) (255 - P3), min P2 P3 + prod8 (min D2 D3) (255 - P3), P3 + prod8 D3 (255 - P3)⟩
              have hs : putM f d s W SW SH cx cy (j * W + (i + 1)) = lm.set m ⟨min P0 P3 + prod8 (min D0 D3) (255 - P3), min P1 P3 + prod8 (min D1 D3) (255 - P3), min P2 P3 + prod8 (min D2 D3) (255 - P3), P3 + prod8 D3 (255 - P3)⟩ := by rw [HSU.out, ← HF.out]; rfl
              rw [← hs] at hI7
              have HI7 := Lib.hid hI7
              clear hI7 hs
              go_roundg (W - (i + 1))
              case measure => omega
              case rel => exact ⟨i + 1, by omega, by omega, by first | rfl | simp, HI7.out⟩
          · have hnx := putM_skip (f := f) (d := d) (s := s) hc
            have hI' := HIi.out
            rw [← hnx] at hI'
            have HI2 := Lib.hid hI'
            rw [cov_at hlti] at hc
            clear hI hI' hnx HIj HIi
            have hcs : (i : Int) - cx < 0 ∨ (¬ (i : Int) - cx < 0 ∧ (SW : Int) ≤ (i : Int) - cx) ∨ (¬ (i : Int) - cx < 0 ∧ ¬ (SW : Int) ≤ (i : Int) - cx ∧ (j : Int) - cy < 0) ∨ (¬ (i : Int) - cx < 0 ∧ ¬ (SW : Int) ≤ (i : Int) - cx ∧ ¬ (j : Int) - cy < 0 ∧ (SH : Int) ≤ (j : Int) - cy) := by omega
            clear hc
            rcases hcs with a0 | ⟨a0, a1⟩ | ⟨a0, a1, a2⟩ | ⟨a0, a1, a2, a3⟩
            all_goals
              go_wp2_with fail
              go_roundg (W - (i + 1))
              case measure => omega
              case rel => exact ⟨i + 1, by omega, by omega, by first | rfl | simp, HI2.out⟩
        · obtain rfl : W = i := by omega
          have hI' := HIi.out
          rw [show j * W + W = (j + 1) * W by rw [Nat.add_mul, Nat.one_mul]] at hI'
          have HI2 := Lib.hid hI'
          clear hI hI' HIi HIj
          go_wp2_with fail
          go_roundg (H - (j + 1))
          case measure => omega
          case rel => exact ⟨j + 1, by omega, by omega, by first | rfl | simp, HI2.out⟩
    · obtain rfl : H = j := by omega
      have hI' := HIj.out
      rw [← HD.out] at hI'
      obtain ⟨⟨d0, _⟩, ⟨d1, _⟩, d2, _⟩ := hI.kd.c3
      obtain ⟨⟨o0, _⟩, ⟨o1, _⟩, o2, _⟩ := hI.ko.c3
      obtain ⟨⟨q0, f0⟩, ⟨q1, f1⟩, q2, f2⟩ := hI.kr.c3
      have hzw := hI.kd.lt
      have HI2 := Lib.hid hI'
      clear hI hI' HIj HI
      go_wp2_with fail
      obtain ⟨KE, FE⟩ := HI2.out.kr.set3 (.int .i64 W) (.int .i64 H) (.slice (some ⟨g, 0, none⟩) n cc)
      refine bodyPost_ret (results_ct rfl _ KE rfl Try.underlying27 rfl (by kernel_rfl)) rfl ?_
      have hbw := HI2.out.below
      refine ⟨_, rfl, by (with_reducible repeat (first | assumption | exact Below.refl _ _ | refine Below.setCell ?_ (by first | omega | (simp; done) | (simp; omega)) _ | refine Below.drew ?_ | refine bdrewN ?_ _ | refine Below.alloc ?_ (by first | omega | (simp; done) | (simp; omega)) _)), ?_⟩
      have ho := FE.row HI2.out.own (.inl rfl)
      show World.ownsRow _ _ _ _ _ (putM f d s W SW SH cx cy n).length _
      rw [HI2.out.len]
      exact ho
end Go.Proofs.Ytgikmcgoaihggaa
