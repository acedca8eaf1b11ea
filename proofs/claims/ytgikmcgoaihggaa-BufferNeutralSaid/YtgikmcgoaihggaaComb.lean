/- combine: the program's Paste and BlendOver, where both buffers are valid. -/
import Derived.Test.YtgikmcgoaihggaaVPut
import Derived.Test.YtgikmcgoaihggaaPut1
set_option linter.unusedVariables false
set_option linter.unusedSimpArgs false
namespace Go.Proofs.Ytgikmcgoaihggaa
open Go.RowKit Go.Sort
attribute [local go_sem ↓] Go.wp_at_zero Go.wp_at_succ
attribute [local go_sem] calm calmAt calmUpon

/-- The part of a row may be changed. -/
def Chg (F : FuncId) (f : Px → Px → Px) (w : World) (n : Nat) : Prop :=
  ∀ (g c o q b off : Nat) (l ss : List Px) (W0 : World), Below w.heap.size w W0 → W0.ownsRow w.heap.size 43 4 (.slice (some ⟨g, 0, none⟩) n c) n (pxCells l) → l.length = n → o + ss.length ≤ n → q = o * 4 →
    Rdp W0 (some ⟨b, off, none⟩) ss → 0 < ss.length → b < w.heap.size → PxsOk l → PxsOk ss →
    Calls Try.prog F #[.slice (some ⟨g, q, none⟩) ss.length ss.length, .slice (some ⟨b, off, none⟩) ss.length ss.length] W0 (ChOk W0 w.heap.size g c n (segM f l ss o ss.length))
theorem enter_paste (args : Array Value) (w : World) : (callFunc 60 args).run Try.prog w = .ok (.enter 60 args) w := by kernel_rfl
theorem enter_blend (args : Array Value) (w : World) : (callFunc 62 args).run Try.prog w = .ok (.enter 62 args) w := by kernel_rfl
theorem chg_paste (w : World) (n : Nat) : Chg 60 cpy w n := fun g c o q b off l ss W0 _ h hl ho hq hr hk _ _ _ => bpaste1_any w.heap.size g c n o q b off l ss W0 h hl ho hq hr hk
theorem chg_blend (w : World) (n : Nat) (hn : n ≤ 400000) : Chg 62 bld w n := fun g c o q b off l ss W0 hB h hl ho hq hr hk hb okl oks => bblend1_any w.heap.size g c n o q b off l ss W0 h hl ho hq hr hk hb hB.size okl oks hn
theorem own_cap {w : World} {base g n c : Nat} {e : TypeId} {k : Nat} {xs : List Value} (h : w.ownsRow base e k (.slice (some ⟨g, 0, none⟩) n c) n xs) : n ≤ c ∧ c ≤ 9223372036854775807 := by
  rcases h.2 with ⟨h2, _⟩ | ⟨g', cap, cur, h2, hb, hg, hnc, hcm, _⟩
  · simp at h2
  · simp only [Value.slice.injEq, Option.some.injEq, Addr.mk.injEq, and_true, true_and] at h2
    obtain ⟨rfl, rfl⟩ := h2
    simp only [maxLen] at hcm
    omega
theorem px0_ok : px0.ok := ⟨⟨by decide, by decide⟩, ⟨by decide, by decide⟩, ⟨by decide, by decide⟩, by decide, by decide⟩
theorem getD_ok {l : List Px} (h : PxsOk l) (q : Nat) : (l.getD q px0).ok := by
  by_cases hq : q < l.length
  · rw [getD_at hq]; exact ok_at h hq
  · rw [List.getD_eq_getElem?_getD, List.getElem?_eq_none (by omega)]; exact px0_ok
theorem putM_ok {f : Px → Px → Px} {d s : List Px} {W m : Nat} {sw sh x y : Int} (hf : ∀ p q : Px, p.ok → q.ok → (f p q).ok) (hd : PxsOk d) (hs : PxsOk s) : PxsOk (putM f d s W sw sh x y m) := by
  intro p hp
  unfold putM at hp
  obtain ⟨q, _, rfl⟩ := List.mem_map.1 hp
  split
  · unfold putG
    split
    · exact hf _ _ (getD_ok hd _) (getD_ok hs _)
    · exact getD_ok hd _
  · exact getD_ok hd _
theorem cpy_ok (p q : Px) (_ : p.ok) (h : q.ok) : (cpy p q).ok := h
theorem bld_ok (p q : Px) (hp : p.ok) (hq : q.ok) : (bld p q).ok := by
  obtain ⟨⟨p1, p2⟩, ⟨p3, p4⟩, ⟨p5, p6⟩, p7, p8⟩ := hp
  obtain ⟨⟨q1, q2⟩, ⟨q3, q4⟩, ⟨q5, q6⟩, q7, q8⟩ := hq
  have a1 := prod8_le (a := min p.r p.a) (b := 255 - q.a) (by omega) (by omega)
  have a2 := prod8_le (a := min p.g p.a) (b := 255 - q.a) (by omega) (by omega)
  have a3 := prod8_le (a := min p.b p.a) (b := 255 - q.a) (by omega) (by omega)
  have a4 := prod8_le (a := p.a) (b := 255 - q.a) (by omega) (by omega)
  unfold bld overP Px.ok
  simp only
  omega
theorem rowP_ok {l : List Px} {i n : Nat} (h : PxsOk l) : PxsOk (rowP l i n) := fun p hp => h p (List.mem_of_mem_drop (List.mem_of_mem_take hp))
set_option maxRecDepth 100000 in
set_option maxHeartbeats 4000000 in
theorem comb_run (F : FuncId) (hEn : ∀ (args : Array Value) (w : World), (callFunc F args).run Try.prog w = .ok (.enter F args) w) (f : Px → Px → Px) (W H SW SH : Nat) (Ad As : Option Addr) (d s : List Px) (c1 c2 : Nat) (x y : Int) (w : World) (rd : Rdp w Ad d) (rs : Rdp w As s) (hd : d.length = H * W) (hs : s.length = SH * SW)
    (hW : 1 ≤ W ∧ W ≤ 256) (hH : 1 ≤ H ∧ H ≤ 256) (hSW : 1 ≤ SW ∧ SW ≤ 256) (hSH : 1 ≤ SH ∧ SH ≤ 256) (kd : bufB W H d = true) (ks : bufB SW SH s = true) (okd : PxsOk d) (oks : PxsOk s)
    (hl2 : s.length ≤ c2 ∧ c2 ≤ 9223372036854775807) (hC : Chg F f w d.length) (hfo : ∀ p q : Px, p.ok → q.ok → (f p q).ok) :
    Calls Try.prog 59 #[bufv W H (.slice Ad d.length c1), bufv SW SH (.slice As s.length c2), .int .i64 x, .int .i64 y, .func (Fn.func F) #[] #[]] w (BufE w (W, H, putM f d s W SW SH x y d.length) 0) := by
  have hHW := Nat.mul_le_mul hH.2 hW.2; have hSHW := Nat.mul_le_mul hSH.2 hSW.2; have hHW1 := Nat.mul_le_mul hH.1 hW.1; have hSHW1 := Nat.mul_le_mul hSH.1 hSW.1; have hVd := fun W0 (hb : Below w.heap.size w W0) => bvalid_any W H Ad d c1 W0 (rd.below hb) (by omega); rw [kd] at hVd; have hVs := fun W0 (hb : Below w.heap.size w W0) => bvalid_any SW SH As s c2 W0 (rs.below hb) (by omega); rw [ks] at hVs; have hn0 : d.length = 0 → Ad = none → c1 = 0 := (fun h => by omega); have hcl := fun W0 (hb : Below w.heap.size w W0) => sclone_any Ad d c1 W0 (rd.below hb) (by omega) hn0
  obtain ⟨n, hn⟩ : ∃ n, d.length = n := ⟨_, rfl⟩
  obtain ⟨ns, hns⟩ : ∃ n, s.length = n := ⟨_, rfl⟩
  rw [hn] at hVd hcl hd hC ⊢
  rw [hns] at hVs hs hl2 ⊢
  have hnp : 0 < n := by omega
  have HVd := Lib.hid hVd
  have HVs := Lib.hid hVs
  have HCL := Lib.hid hcl
  have HN := Lib.hid hn
  have HNS := Lib.hid hns
  have HD := Lib.hid hd
  have HS := Lib.hid hs
  have HC := Lib.hid hC
  clear hVd hVs hcl hn hns hd hs kd ks rd hn0 hC
  go_enter Try.func59, Try.ntmps59
  go_wp2_with fail
  refine (HVd.out _ (by (with_reducible repeat (first | assumption | exact Below.refl _ _ | refine Below.setCell ?_ (by first | omega | (simp; done) | (simp; omega)) _ | refine Below.drew ?_ | refine bdrewN ?_ _ | refine Below.alloc ?_ (by first | omega | (simp; done) | (simp; omega)) _)))).mono ?_; rintro e w2 ⟨rfl, hb_w2⟩
  have hB2 : Below w.heap.size w w2 := bon (by (with_reducible repeat (first | assumption | exact Below.refl _ _ | refine Below.setCell ?_ (by first | omega | (simp; done) | (simp; omega)) _ | refine Below.drew ?_ | refine bdrewN ?_ _ | refine Below.alloc ?_ (by first | omega | (simp; done) | (simp; omega)) _))) (by simp; try omega) hb_w2
  have K5 : Blk w2 (w.heap.size) 27 #[.int .i64 W, .int .i64 H, .slice Ad n c1] := Blk.below hb_w2 (by (with_reducible repeat (first | assumption | (refine Blk.newAt ?_; first | rfl | (simp; done)) | refine Blk.alloc ?_ _ | refine Blk.drew ?_ | refine Blk.other ?_ (by simp) _)))
  have K6 : Blk w2 (w.heap.size + 1) 27 #[.int .i64 SW, .int .i64 SH, .slice As ns c2] := Blk.below hb_w2 (by (with_reducible repeat (first | assumption | (refine Blk.newAt ?_; first | rfl | (simp; done)) | refine Blk.alloc ?_ _ | refine Blk.drew ?_ | refine Blk.other ?_ (by simp) _)))
  have K10 : Blk w2 (w.heap.size + 1 + 1) 27 #[.int .i64 0, .int .i64 0, .slice none 0 0] := Blk.below hb_w2 (by (with_reducible repeat (first | assumption | (refine Blk.newAt ?_; first | rfl | (simp; done)) | refine Blk.alloc ?_ _ | refine Blk.drew ?_ | refine Blk.other ?_ (by simp) _)))
  have HK5 := Lib.hid K5
  have HK6 := Lib.hid K6
  have HK10 := Lib.hid K10
  obtain ⟨⟨d0, _⟩, ⟨d1, _⟩, d2, _⟩ := K6.c3
  clear hb_w2 K5 K6 K10
  go_wp2_with fail
  refine (HVs.out _ hB2).mono ?_; rintro e w3 ⟨rfl, hb_w3⟩
  have hB3 : Below w.heap.size w w3 := bon hB2 hB2.size hb_w3
  have K5 := Blk.below hb_w3 HK5.out
  have K6 := Blk.below hb_w3 HK6.out
  have K10 := Blk.below hb_w3 HK10.out
  clear HK5 HK6 HK10 d0 d1 d2 hb_w3 hB2 HVd HVs
  go_upto_region 3 with fail
  go_cut [12] (fun s12 wx => ∃ tb g cc, s12 = .pointer (some ⟨tb, 0, none⟩) ∧ PutI w W H SW SH (.slice Ad n c1) (.slice As ns c2) n tb g cc d wx)
  case first =>
    obtain ⟨⟨d0, _⟩, ⟨d1, _⟩, d2, _⟩ := K5.c3
    have hz5 : w.heap.size < w3.heap.size := K5.lt
    have hz6 : w.heap.size + 1 < w3.heap.size := K6.lt
    have hz10 : w.heap.size + 1 + 1 < w3.heap.size := K10.lt
    have hzB : w.heap.size ≤ w3.heap.size := Nat.le_of_lt hz5
    have hx1 : w.heap.size ≠ w3.heap.size := Nat.ne_of_lt hz5
    have hx4 : w.heap.size ≠ w3.heap.size + 1 := by omega
    have hx5 : w3.heap.size + 1 ≠ w.heap.size := by omega
    have hx6 : w3.heap.size ≠ w.heap.size := by omega
    have HB3 := Lib.hid hB3
    have HK5 := Lib.hid K5
    have HK6 := Lib.hid K6
    have HK10 := Lib.hid K10
    clear K5 K6 K10 hB3
    go_region_held3 (fun w' => w'.cell? ⟨w.heap.size, 0, none⟩ = some (.int .i64 W) ∧ w'.cell? ⟨w.heap.size, 1, none⟩ = some (.int .i64 H) ∧ w'.cell? ⟨w.heap.size, 2, none⟩ = some (.slice Ad n c1)) (go_keep)
      ((go_at_call 70; refine (HCL.out _ (by have := HB3.out; (with_reducible repeat (first | assumption | exact Below.refl _ _ | refine Below.setCell ?_ (by first | omega | (simp; done) | (simp; omega)) _ | refine Below.drew ?_ | refine bdrewN ?_ _ | refine Below.alloc ?_ (by first | omega | (simp; done) | (simp; omega)) _)))).mono ?_; rintro e w7 ⟨v7, rfl, hb7, ho7⟩; have hb7' : Below w3.heap.size w3 w7 := bon (by (with_reducible repeat (first | assumption | exact Below.refl _ _ | refine Below.setCell ?_ (by first | omega | (simp; done) | (simp; omega)) _ | refine Below.drew ?_ | refine bdrewN ?_ _ | refine Below.alloc ?_ (by first | omega | (simp; done) | (simp; omega)) _))) (by simp) hb7; unfold OwnP at ho7; rw [HN.out] at ho7; obtain ⟨g7, e7, hv7, _, _⟩ := own_px ho7 hnp; subst hv7; have K5' := Blk.below hb7' HK5.out; obtain ⟨⟨d0, _⟩, ⟨d1, _⟩, d2, _⟩ := K5'.c3; (try have Kt := Blk.below hb7 (Blk.drew (Blk.newAt (w := w3) (n := w3.heap.size) (e := 27) (cs := #[.int .i64 0, .int .i64 0, .slice none 0 0]) rfl)); obtain ⟨⟨t0, u0⟩, ⟨t1, u1⟩, t2, u2⟩ := Kt.c3; have HKt := Lib.hid Kt; clear Kt); have HO7 := Lib.hid ho7; have HB7 := Lib.hid hb7'; have hz7 := hb7'.size; clear ho7 hb7 hb7' K5'))
    · go_wp2_with fail
      go_meet
      have hB7 := bon HB3.out hzB HB7.out
      exact ⟨_, g7, e7, rfl, by (with_reducible repeat (first | assumption | exact Below.refl _ _ | refine Below.setCell ?_ (by first | omega | (simp; done) | (simp; omega)) _ | refine Below.drew ?_ | refine bdrewN ?_ _ | refine Below.alloc ?_ (by first | omega | (simp; done) | (simp; omega)) _)), (Blk.below HB7.out HK5.out).alloc _, (Blk.below HB7.out HK6.out).alloc _, (Blk.below HB7.out HK10.out).alloc _, Blk.new _ _ _, (ownsRow_mono HO7.out (by simp; omega)).alloc _, HN.out, by omega⟩
    · go_wp2_with fail
      go_meet
      have hB7 := bon HB3.out hzB HB7.out
      obtain ⟨KE, FE⟩ := HKt.out.set3 (.int .i64 W) (.int .i64 H) (.slice (some ⟨g7, 0, none⟩) n e7)
      exact ⟨_, g7, e7, rfl, by (with_reducible repeat (first | assumption | exact Below.refl _ _ | refine Below.setCell ?_ (by first | omega | (simp; done) | (simp; omega)) _ | refine Below.drew ?_ | refine bdrewN ?_ _ | refine Below.alloc ?_ (by first | omega | (simp; done) | (simp; omega)) _)), ((((Blk.below HB7.out HK5.out).other (by simp; omega) _).other (by simp; omega) _).other (by simp; omega) _), ((((Blk.below HB7.out HK6.out).other (by simp; omega) _).other (by simp; omega) _).other (by simp; omega) _), ((((Blk.below HB7.out HK10.out).other (by simp; omega) _).other (by simp; omega) _).other (by simp; omega) _), KE, FE.row (ownsRow_mono HO7.out (by simp; omega)) (.inl rfl), HN.out, by omega⟩
  case rest =>
  obtain ⟨tb, g, cc, rfl, hI⟩ := hcut
  have HI := Lib.hid hI
  have hW' := hW
  have hH' := hH
  by_cases hin : (-(SW : Int) < x ∧ x < W) ∧ (-(SH : Int) < y ∧ y < H)
  · obtain ⟨⟨i1, i2⟩, i3, i4⟩ := hin
    have m1 : ¬ x ≤ -(SW : Int) := by omega
    have m2 : ¬ y ≤ -(SH : Int) := by omega
    have m3 : ¬ (W : Int) ≤ x := by omega
    have m4 : ¬ (H : Int) ≤ y := by omega
    obtain ⟨a, ha⟩ : ∃ a : Nat, (if x < 0 then (0 : Int) else x) = a := ⟨(if x < 0 then (0 : Int) else x).toNat, by omega⟩
    obtain ⟨z, hz⟩ : ∃ a : Nat, (if (W : Int) < x + SW then (W : Int) else x + SW) = a := ⟨(if (W : Int) < x + SW then (W : Int) else x + SW).toNat, by omega⟩
    obtain ⟨b0, hb0⟩ : ∃ a : Nat, (if y < 0 then (0 : Int) else y) = a := ⟨(if y < 0 then (0 : Int) else y).toNat, by omega⟩
    obtain ⟨e0, he0⟩ : ∃ a : Nat, (if (H : Int) < y + SH then (H : Int) else y + SH) = a := ⟨(if (H : Int) < y + SH then (H : Int) else y + SH).toNat, by omega⟩
    have hx : (a : Int) = max x 0 ∧ (z : Int) = min (x + SW) W ∧ (b0 : Int) = max y 0 ∧ (e0 : Int) = min (y + SH) H := by omega
    have HX := Lib.hid hx
    have haz : a < z ∧ z ≤ W ∧ b0 < e0 ∧ e0 ≤ H := by omega
    have sx : IntKind.i64.wrap (x + (SW : Int)) = x + SW := IntWalk.i64_in _ (by omega)
    have sy : IntKind.i64.wrap (y + (SH : Int)) = y + SH := IntWalk.i64_in _ (by omega)
    have hstart : putM f d s W SW SH x y (b0 * W) = d := by
      have := putM_rows (f := f) (d := d) (s := s) (W := W) (j := 0) (k := b0) (sw := SW) (sh := SH) (x := x) (y := y) (by omega) (fun r _ h2 => by omega)
      rw [Nat.zero_add, Nat.zero_mul, putM_zero] at this
      exact this
    have hend : putM f d s W SW SH x y n = putM f d s W SW SH x y (e0 * W) := by
      have := putM_rows (f := f) (d := d) (s := s) (W := W) (j := e0) (k := H - e0) (sw := SW) (sh := SH) (x := x) (y := y) (by omega) (fun r h1 h2 => by omega)
      rw [show e0 + (H - e0) = H by omega, ← HD.out] at this
      exact this
    have HST := Lib.hid hstart
    have HEN := Lib.hid hend
    obtain ⟨⟨d0, _⟩, ⟨d1, _⟩, d2, _⟩ := hI.kd.c3
    obtain ⟨⟨p0, _⟩, ⟨p1, _⟩, p2, _⟩ := hI.ks.c3
    clear hB3 K5 K6 K10 hI hstart hend hx
    go_wp2_with fail
    go_quiet (fail)
    go_wp2_with fail
    have hI0 : PutI w W H SW SH (.slice Ad n c1) (.slice As ns c2) n tb g cc (putM f d s W SW SH x y (b0 * W)) (wc.drewN nq) := by rw [HST.out]; exact HI.out.mono (bdrewN (Below.refl _ _) _)
    have HI0 := Lib.hid hI0
    clear hI0 HI HST
    go_loopg [15] (e0 - b0) (fun k s15 wr => ∃ j : Nat, k = e0 - j ∧ b0 ≤ j ∧ j ≤ e0 ∧ s15 = .int .i64 j ∧ PutI w W H SW SH (.slice Ad n c1) (.slice As ns c2) n tb g cc (putM f d s W SW SH x y (j * W)) wr)
    case atStart => exact ⟨b0, by omega, by omega, by omega, by first | rfl | simp, HI0.out⟩
    case round =>
      obtain ⟨j, hk, hj0, hj, rfl, hI⟩ := hrel
      have HIj := Lib.hid hI
      by_cases hlt : j < e0
      · obtain ⟨⟨d0, _⟩, ⟨d1, _⟩, d2, _⟩ := hI.kd.c3
        obtain ⟨⟨p0, _⟩, ⟨p1, _⟩, p2, _⟩ := hI.ks.c3
        obtain ⟨⟨o0, _⟩, ⟨o1, _⟩, o2, _⟩ := hI.ko.c3
        have hx := HX.out
        obtain ⟨v, hv⟩ : ∃ v : Nat, (j : Int) - y = v := ⟨((j : Int) - y).toNat, by omega⟩
        obtain ⟨u, hu⟩ : ∃ v : Nat, (a : Int) - x = v := ⟨((a : Int) - x).toNat, by omega⟩
        obtain ⟨t, ht⟩ : ∃ v : Nat, (z : Int) - x = v := ⟨((z : Int) - x).toNat, by omega⟩
        have hvSH : v < SH := by omega
        have htSW : t ≤ SW := by omega
        have hut : t - u = z - a := by omega
        have hut' : u < t := by omega
        have hrow := seg_put (f := f) (d := d) (s := s) (W := W) (sw := SW) (sh := SH) (j := j) (a := a) (z := z) (x := x) (y := y) (H := H) (by rw [HN.out]; exact HD.out) (by rw [HNS.out]; exact HS.out) (by omega) (by omega) hx.1 hx.2.1 haz.1
        rw [hv, hu] at hrow
        simp only [Int.toNat_natCast] at hrow
        have hin1 : j * W + z ≤ n := by
          have := crop_in (W := W) (H := H) (y := j) (x0 := z) (n := 0) (by omega) (by omega)
          rw [HD.out]; omega
        have hin2 : v * SW + t ≤ ns := by
          have := crop_in (W := SW) (H := SH) (y := v) (x0 := t) (n := 0) (by omega) (by omega)
          rw [HS.out]; omega
        obtain ⟨sb, soff, rfl, hsb, _⟩ := rs 0 (by rw [HNS.out, HS.out]; omega)
        have hrs : Rdp wr (some ⟨sb, soff, none⟩) s := Rdp.belowB hI.below hsb rs
        have hpart := Rdp.part (i := v * SW + u) (n := z - a) hrs (by rw [HNS.out]; omega)
        have hpl := rowP_length (ps := s) (i := v * SW + u) (n := z - a) (by rw [HNS.out]; omega)
        have hcc := own_cap hI.own
        have hCall : ∀ W0, Below wr.heap.size wr W0 → Calls Try.prog F #[.slice (some ⟨g, (j * W + a) * 4, none⟩) (z - a) (z - a), .slice (some ⟨sb, soff + (v * SW + u) * 4, none⟩) (z - a) (z - a)] W0 (ChOk W0 w.heap.size g cc n (putM f d s W SW SH x y ((j + 1) * W))) := by
          intro W0 hb
          have hI0 := hI.mono hb
          have h := HC.out g cc (j * W + a) ((j * W + a) * 4) sb (soff + (v * SW + u) * 4) (putM f d s W SW SH x y (j * W)) (rowP s (v * SW + u) (z - a)) W0 hI0.below hI0.own hI0.len (by rw [hpl]; omega) rfl (hpart.below hb) (by rw [hpl]; omega) hsb (putM_ok hfo okd oks) (rowP_ok oks)
          rw [hpl, hrow] at h
          exact h
        have hR1 := fun W0 => brow_any W j a z H g 0 n cc W0 hW'.2 (by omega) haz.1 hin1 hcc
        have hR2 := fun W0 => brow_any SW v u t SH sb soff ns c2 W0 hSW.2 (by omega) hut' hin2 hl2
        rw [hut] at hR2
        rw [Nat.zero_add] at hR1
        have sv : IntKind.i64.wrap ((j : Int) - y) = (v : Int) := by rw [hv]; exact IntWalk.i64_in _ (by omega)
        have su : IntKind.i64.wrap ((a : Int) - x) = (u : Int) := by rw [hu]; exact IntWalk.i64_in _ (by omega)
        have st : IntKind.i64.wrap ((z : Int) - x) = (t : Int) := by rw [ht]; exact IntWalk.i64_in _ (by omega)
        have HCall := Lib.hid hCall
        have hR : ∀ W0 (bv : Value) (yy aa zz : Int) (r : Value), (bv = bufv W H (.slice (some ⟨g, 0, none⟩) n cc) ∧ yy = (j : Int) ∧ aa = (a : Int) ∧ zz = (z : Int) ∧ r = .slice (some ⟨g, (j * W + a) * 4, none⟩) (z - a) (z - a)) ∨
            (bv = bufv SW SH (.slice (some ⟨sb, soff, none⟩) ns c2) ∧ yy = (v : Int) ∧ aa = (u : Int) ∧ zz = (t : Int) ∧ r = .slice (some ⟨sb, soff + (v * SW + u) * 4, none⟩) (z - a) (z - a)) →
            Calls Try.prog 57 #[bv, .int .i64 yy, .int .i64 aa, .int .i64 zz] W0 fun e w' => e = .returned r ∧ Below W0.heap.size W0 w' := by
          rintro W0 bv yy aa zz r (⟨rfl, rfl, rfl, rfl, rfl⟩ | ⟨rfl, rfl, rfl, rfl, rfl⟩)
          · exact hR1 W0
          · exact hR2 W0
        have HR := Lib.hid hR
        have hjj : (j : Int) < e0 := by omega
        clear hI HI0 hx hv hu ht hrow hrs hpart hpl hcc hCall hR hR1 hR2 hin1 hin2 hut hut' hvSH htSW
        go_wp2_with fail
        have g0 := cell_regrown o0
        have g1 := cell_regrown o1
        have g2 := cell_regrown o2
        have g3 := cell_regrown p0
        have g4 := cell_regrown p1
        have g5 := cell_regrown p2
        (refine wp_region_calm 17 [] [false, false, false, false, false, false, false, false, false, false, false, false, false, false, false, false, false] (by kernel_rfl) (by kernel_rfl) (by decide) (freshOk_of (by kernel_rfl) (by kernel_rfl) (fun x hx => by cases hx)) ?_; simp only [List.take_succ_cons, List.take_zero, List.drop_succ_cons, List.drop_zero, List.zip_cons_cons, List.zip_nil_left, List.zip_nil_right]; (repeat (first | refine wpCalm_pass ?_ | (refine wpCalm_step (fun K hK => ?_); go_simp; first | (refine hK _ ?_; clear hK K) | (apply Exists.intro; refine ⟨fun _ => ?_, hK _ ?_⟩; (exact HR.out _ _ _ _ _ _ (by first | exact .inl ⟨rfl, rfl, rfl, rfl, rfl⟩ | exact .inr ⟨rfl, rfl, rfl, rfl, rfl⟩)); clear hK K)))); (first | refine wpCalm_nil ?_ | skip))
        intro F' wz hFz
        obtain rfl := hFz.nil
        have hbz := hFz.below
        clear g0 g1 g2 g3 g4 g5 hFz d0 d1 d2 p0 p1 p2 o0 o1 o2
        have HBz := Lib.hid hbz
        unfold putL
        have hCz := HCall.out wz hbz
        have HCz := Lib.hid hCz
        clear hCz hbz
        go_wp2_with (refine (HCz.out).mono ?_; rintro e w9 ⟨rfl, ho9, hf9⟩; have hI9 := (HIj.out.mono HBz.out).grow hf9 ho9 (by rw [putM_length]; exact HN.out); have HI9 := Lib.hid hI9; clear hI9 ho9 hf9)
        go_roundg (e0 - (j + 1))
        case measure => omega
        case rel => exact ⟨j + 1, by omega, by omega, by omega, by first | rfl | simp, HI9.out⟩
      · obtain rfl : e0 = j := by omega
        have hI' := HIj.out
        rw [← HEN.out] at hI'
        obtain ⟨⟨d0, _⟩, ⟨d1, _⟩, d2, _⟩ := hI.kd.c3
        obtain ⟨⟨p0, _⟩, ⟨p1, _⟩, p2, _⟩ := hI.ks.c3
        obtain ⟨⟨o0, _⟩, ⟨o1, _⟩, o2, _⟩ := hI.ko.c3
        obtain ⟨⟨q0, f0⟩, ⟨q1, f1⟩, q2, f2⟩ := hI.kr.c3
        have hzw := hI.kd.lt
        have HI2 := Lib.hid hI'
        clear hI hI' HIj HI0
        go_wp2_with fail
        obtain ⟨KE, FE⟩ := HI2.out.kr.set3 (.int .i64 W) (.int .i64 H) (.slice (some ⟨g, 0, none⟩) n cc)
        refine bodyPost_ret (results_ct rfl _ KE rfl Try.underlying27 rfl (by kernel_rfl)) rfl ?_
        have hbw := HI2.out.below
        refine ⟨_, rfl, by (with_reducible repeat (first | assumption | exact Below.refl _ _ | refine Below.setCell ?_ (by first | omega | (simp; done) | (simp; omega)) _ | refine Below.drew ?_ | refine bdrewN ?_ _ | refine Below.alloc ?_ (by first | omega | (simp; done) | (simp; omega)) _)), ?_⟩
        have ho := FE.row HI2.out.own (.inl rfl)
        show World.ownsRow _ _ _ _ _ (putM f d s W SW SH x y n).length _
        rw [HI2.out.len]
        exact ho
  · have hout : putM f d s W SW SH x y n = d := by
      refine putM_out fun q hq hc => hin ?_
      have h1 := div_at (H := H) (W := W) (q := q) (by rw [← HD.out]; exact hq)
      have h2 := Nat.mod_lt q (show 0 < W by omega)
      unfold cov at hc
      generalize q / W = qj at *
      generalize q % W = qi at *
      omega
    have hI' := HI.out
    rw [← hout] at hI'
    have HO := Lib.hid hout
    obtain ⟨⟨d0, _⟩, ⟨d1, _⟩, d2, _⟩ := hI.kd.c3
    obtain ⟨⟨p0, _⟩, ⟨p1, _⟩, p2, _⟩ := hI.ks.c3
    obtain ⟨⟨o0, _⟩, ⟨o1, _⟩, o2, _⟩ := hI.ko.c3
    obtain ⟨⟨q0, f0⟩, ⟨q1, f1⟩, q2, f2⟩ := hI.kr.c3
    have hzw := hI.kd.lt
    have HI2 := Lib.hid hI'
    have hcs : x ≤ -(SW : Int) ∨ (¬ x ≤ -(SW : Int) ∧ y ≤ -(SH : Int)) ∨ (¬ x ≤ -(SW : Int) ∧ ¬ y ≤ -(SH : Int) ∧ (W : Int) ≤ x) ∨ (¬ x ≤ -(SW : Int) ∧ ¬ y ≤ -(SH : Int) ∧ ¬ (W : Int) ≤ x ∧ (H : Int) ≤ y) := by omega
    clear hI hI' HI hB3 K5 K6 K10 hout hin
    rcases hcs with a0 | ⟨a0, a1⟩ | ⟨a0, a1, a2⟩ | ⟨a0, a1, a2, a3⟩
    all_goals
      go_wp2_with fail
      obtain ⟨KE, FE⟩ := HI2.out.kr.set3 (.int .i64 W) (.int .i64 H) (.slice (some ⟨g, 0, none⟩) n cc)
      refine bodyPost_ret (results_ct rfl _ KE rfl Try.underlying27 rfl (by kernel_rfl)) rfl ?_
      have hbw := HI2.out.below
      refine ⟨_, rfl, by (with_reducible repeat (first | assumption | exact Below.refl _ _ | refine Below.setCell ?_ (by first | omega | (simp; done) | (simp; omega)) _ | refine Below.drew ?_ | refine bdrewN ?_ _ | refine Below.alloc ?_ (by first | omega | (simp; done) | (simp; omega)) _)), ?_⟩
      have ho := FE.row HI2.out.own (.inl rfl)
      show World.ownsRow _ _ _ _ _ (putM f d s W SW SH x y n).length _
      rw [HI2.out.len]
      exact ho
end Go.Proofs.Ytgikmcgoaihggaa
