/- The examples of chapter 9. -/
import Derived.Test.YtgikmcgoaihggaaDecA
import Derived.Test.YtgikmcgoaihggaaCrop
set_option linter.unusedVariables false
set_option linter.unusedSimpArgs false
namespace Go.Proofs.Ytgikmcgoaihggaa
open Go.RowKit
attribute [local go_sem ↓] Go.wp_at_zero Go.wp_at_succ

abbrev pxW : Px := ⟨255, 255, 255, 255⟩
abbrev pxB : Px := ⟨0, 0, 0, 255⟩
theorem ex_dec1 : decE 2 1 1 4 4 = 0 ∧ decB 2 1 1 4 [1, 2, 3, 0] = (1, 1, [⟨3, 2, 1, 255⟩]) := by decide +kernel
theorem ex_dec2 : decE 2 1 1 6 6 = 15 ∧ decB 2 1 1 6 [1, 2, 3, 0, 0, 0] = (0, 0, []) := by decide +kernel
theorem ex_dec3 : decE 2 1 1 4 3 = 4 ∧ decB 2 1 1 4 [1, 2, 3] = (0, 0, []) := by decide +kernel
theorem ex_diff : diffE 3 1 [pxW, pxW, pxW] 3 1 [pxW, pxB, pxW] = 0 ∧ diffL 3 1 [pxW, pxW, pxW] 3 1 [pxW, pxB, pxW] = [⟨1, 0, 2, 1⟩] := by decide +kernel
theorem ex_crop : cropE 2 2 [pxW, pxW, pxW, pxW] ⟨1, 0, 3, 1⟩ = 6 ∧ cropB 2 2 [pxW, pxW, pxW, pxW] ⟨1, 0, 3, 1⟩ = (0, 0, []) := by decide +kernel
theorem dec_lit {f bw bh st : Int} {b : Nat} {zs : List Int} {n : Nat} {w : World} {E : Int} {B : Int × Int × List Px} (hn : zs.length = n) (hst : st < 9223372036854775808) (hm : n ≤ 1000) (K : Blk w b 5 (zs.map (Value.int .u8)).toArray) (hz : ∀ z ∈ zs, 0 ≤ z ∧ z ≤ 255)
    (e : decE f bw bh st n = E ∧ decB f bw bh st zs = B) : Calls Try.prog 14 #[.int .i64 f, .int .i64 bw, .int .i64 bh, .int .i64 st, .slice (some ⟨b, 0, none⟩) n n] w (BufE w B E) := by
  subst hn
  rw [← e.1, ← e.2]
  exact bdecode_any f bw bh st _ zs _ w hst (by omega) (rd_lit K) hz
theorem diff_lit {w1 h1 w2 h2 : Int} {b1 b2 : Nat} {p1 p2 : List Px} {n1 n2 : Nat} {w : World} {E : Int} {L : List Rc} (hn1 : p1.length = n1) (hn2 : p2.length = n2) (hm1 : n1 ≤ 1000) (hm2 : n2 ≤ 1000) (K1 : Blk w b1 43 (pxCells p1).toArray) (K2 : Blk w b2 43 (pxCells p2).toArray)
    (e : diffE w1 h1 p1 w2 h2 p2 = E ∧ diffL w1 h1 p1 w2 h2 p2 = L) : Calls Try.prog 17 #[bufv w1 h1 (.slice (some ⟨b1, 0, none⟩) n1 n1), bufv w2 h2 (.slice (some ⟨b2, 0, none⟩) n2 n2)] w (RectsOk w E L) := by
  subst hn1 hn2
  rw [← e.1, ← e.2]
  exact bdiff_any _ _ _ _ _ _ _ _ _ _ w (rdp_lit K1) (rdp_lit K2) (by omega) (by omega)
theorem crop_lit {bw bh : Int} {b : Nat} {ps : List Px} {n : Nat} {r : Rc} {w : World} {E : Int} {B : Int × Int × List Px} (hn : ps.length = n) (hm : n ≤ 1000) (K : Blk w b 43 (pxCells ps).toArray) (he : E ≠ 0)
    (e : cropE bw bh ps r = E ∧ cropB bw bh ps r = B) : Calls Try.prog 30 #[bufv bw bh (.slice (some ⟨b, 0, none⟩) n n), rcv r] w (BufE w B E) := by
  subst hn
  rw [← e.1, ← e.2]
  exact bcrop_bad _ _ _ _ _ _ w (rdp_lit K) (by omega) (by rw [e.1]; exact he)
set_option maxRecDepth 100000 in
set_option maxHeartbeats 4000000 in
theorem lbex_true (w : World) : Calls Try.prog 13 #[] w fun e w' => e = .returned (.bool true) ∧ Below w.heap.size w w' := by
  go_enter Try.func13, Try.ntmps13
  go_wp2_with fail
  have hB0 : Below w.heap.size w (((w.alloc (.cells #[.int .u8 255, .int .u8 255, .int .u8 255, .int .u8 255] 43)).alloc (.cells #[.int .u8 0, .int .u8 0, .int .u8 0, .int .u8 255] 43)).alloc (.cells #[.int .u8 1, .int .u8 2, .int .u8 3, .int .u8 0] 5)) := by (with_reducible repeat (first | assumption | exact Below.refl _ _ | refine Below.setCell ?_ (by first | omega | (simp; done) | (simp; omega)) _ | refine Below.drew ?_ | refine bdrewN ?_ _ | refine Below.alloc ?_ (by first | omega | (simp; done) | (simp; omega)) _))
  have KW : Blk (((w.alloc (.cells #[.int .u8 255, .int .u8 255, .int .u8 255, .int .u8 255] 43)).alloc (.cells #[.int .u8 0, .int .u8 0, .int .u8 0, .int .u8 255] 43)).alloc (.cells #[.int .u8 1, .int .u8 2, .int .u8 3, .int .u8 0] 5)) w.heap.size 43 #[.int .u8 255, .int .u8 255, .int .u8 255, .int .u8 255] := by (with_reducible repeat (first | assumption | (refine Blk.newAt ?_; first | rfl | (simp; done)) | refine Blk.alloc ?_ _ | refine Blk.drew ?_ | refine Blk.other ?_ (by simp) _))
  have KB : Blk (((w.alloc (.cells #[.int .u8 255, .int .u8 255, .int .u8 255, .int .u8 255] 43)).alloc (.cells #[.int .u8 0, .int .u8 0, .int .u8 0, .int .u8 255] 43)).alloc (.cells #[.int .u8 1, .int .u8 2, .int .u8 3, .int .u8 0] 5)) (w.heap.size + 1) 43 #[.int .u8 0, .int .u8 0, .int .u8 0, .int .u8 255] := by (with_reducible repeat (first | assumption | (refine Blk.newAt ?_; first | rfl | (simp; done)) | refine Blk.alloc ?_ _ | refine Blk.drew ?_ | refine Blk.other ?_ (by simp) _))
  have KD : Blk (((w.alloc (.cells #[.int .u8 255, .int .u8 255, .int .u8 255, .int .u8 255] 43)).alloc (.cells #[.int .u8 0, .int .u8 0, .int .u8 0, .int .u8 255] 43)).alloc (.cells #[.int .u8 1, .int .u8 2, .int .u8 3, .int .u8 0] 5)) (w.heap.size + 1 + 1) 5 #[.int .u8 1, .int .u8 2, .int .u8 3, .int .u8 0] := by (with_reducible repeat (first | assumption | (refine Blk.newAt ?_; first | rfl | (simp; done)) | refine Blk.alloc ?_ _ | refine Blk.drew ?_ | refine Blk.other ?_ (by simp) _))
  refine (dec_lit (zs := [1, 2, 3, 0]) rfl (by decide) (by decide) KD (by decide) ex_dec1).mono ?_
  rintro e w3 ⟨v3, rfl, hb3, ho3⟩
  have HB3 := Lib.hid (bon hB0 hB0.size hb3)
  have HW3 := Lib.hid (Blk.below hb3 KW)
  have HK3 := Lib.hid (Blk.below hb3 KB)
  have hz3 := hb3.size
  simp at hz3
  obtain ⟨a3, c3, hv3, hc3, _, hr3⟩ := ho3.form
  subst hv3
  have HR3 := Lib.hid hr3
  clear hB0 KW KB KD hb3 ho3
  simp only [List.length_cons, List.length_nil, Nat.zero_add] at hc3 ⊢
  go_wp2_with fail
  have hb3' := (show Below w3.heap.size w3 ((w3.alloc (.cells #[.int .i64 1, .int .i64 1, .slice a3 1 c3] 27)).alloc (.cells #[.int .u8 1, .int .u8 2, .int .u8 3, .int .u8 0, .int .u8 0, .int .u8 0] 5)) by (with_reducible repeat (first | assumption | exact Below.refl _ _ | refine Below.setCell ?_ (by first | omega | (simp; done) | (simp; omega)) _ | refine Below.drew ?_ | refine bdrewN ?_ _ | refine Below.alloc ?_ (by first | omega | (simp; done) | (simp; omega)) _)))
  have KC : Blk ((w3.alloc (.cells #[.int .i64 1, .int .i64 1, .slice a3 1 c3] 27)).alloc (.cells #[.int .u8 1, .int .u8 2, .int .u8 3, .int .u8 0, .int .u8 0, .int .u8 0] 5)) w3.heap.size 27 #[.int .i64 1, .int .i64 1, .slice a3 1 c3] := by (with_reducible repeat (first | assumption | (refine Blk.newAt ?_; first | rfl | (simp; done)) | refine Blk.alloc ?_ _ | refine Blk.drew ?_ | refine Blk.other ?_ (by simp) _))
  have KD : Blk ((w3.alloc (.cells #[.int .i64 1, .int .i64 1, .slice a3 1 c3] 27)).alloc (.cells #[.int .u8 1, .int .u8 2, .int .u8 3, .int .u8 0, .int .u8 0, .int .u8 0] 5)) (w3.heap.size + 1) 5 #[.int .u8 1, .int .u8 2, .int .u8 3, .int .u8 0, .int .u8 0, .int .u8 0] := by (with_reducible repeat (first | assumption | (refine Blk.newAt ?_; first | rfl | (simp; done)) | refine Blk.alloc ?_ _ | refine Blk.drew ?_ | refine Blk.other ?_ (by simp) _))
  refine (dec_lit (zs := [1, 2, 3, 0, 0, 0]) rfl (by decide) (by decide) KD (by decide) ex_dec2).mono ?_
  rintro e w4 ⟨v4, rfl, hb4, ho4⟩
  have hb4' : Below w3.heap.size w3 w4 := bon hb3' hb3'.size hb4
  have HB4 := Lib.hid (bon HB3.out HB3.out.size hb4')
  have HW4 := Lib.hid (Blk.below hb4' HW3.out)
  have HK4 := Lib.hid (Blk.below hb4' HK3.out)
  have HC4 := Lib.hid (Blk.below hb4 KC)
  have HR4 := Lib.hid (HR3.out.below hb4')
  have hz4 := hb4.size
  simp at hz4
  obtain ⟨a4, c4, hv4, _, _, _⟩ := ho4.form
  subst hv4
  clear KC KD hb3' hb4 hb4' ho4 HR3 HW3 HK3
  simp only [List.length_cons, List.length_nil, Nat.zero_add]
  go_wp2_with fail
  have hb4' := (show Below w4.heap.size w4 ((w4.alloc (.cells #[.int .i64 0, .int .i64 0, .slice a4 0 c4] 27)).alloc (.cells #[.int .u8 1, .int .u8 2, .int .u8 3] 5)) by (with_reducible repeat (first | assumption | exact Below.refl _ _ | refine Below.setCell ?_ (by first | omega | (simp; done) | (simp; omega)) _ | refine Below.drew ?_ | refine bdrewN ?_ _ | refine Below.alloc ?_ (by first | omega | (simp; done) | (simp; omega)) _)))
  have KD : Blk ((w4.alloc (.cells #[.int .i64 0, .int .i64 0, .slice a4 0 c4] 27)).alloc (.cells #[.int .u8 1, .int .u8 2, .int .u8 3] 5)) (w4.heap.size + 1) 5 #[.int .u8 1, .int .u8 2, .int .u8 3] := by (with_reducible repeat (first | assumption | (refine Blk.newAt ?_; first | rfl | (simp; done)) | refine Blk.alloc ?_ _ | refine Blk.drew ?_ | refine Blk.other ?_ (by simp) _))
  refine (dec_lit (zs := [1, 2, 3]) rfl (by decide) (by decide) KD (by decide) ex_dec3).mono ?_
  rintro e w5 ⟨v5, rfl, hb5, ho5⟩
  have hb5' : Below w4.heap.size w4 w5 := bon hb4' hb4'.size hb5
  have HB5 := Lib.hid (bon HB4.out HB4.out.size hb5')
  obtain ⟨⟨x0, _⟩, ⟨x1, _⟩, ⟨x2, _⟩, x3, _⟩ := (Blk.below hb5' HW4.out).c4
  obtain ⟨⟨y0, _⟩, ⟨y1, _⟩, ⟨y2, _⟩, y3, _⟩ := (Blk.below hb5' HK4.out).c4
  have HW5 := Lib.hid (Blk.below hb5' HW4.out)
  have HC5 := Lib.hid (Blk.below hb5' HC4.out)
  have HR5 := Lib.hid (HR4.out.below hb5')
  have hz5 := hb5.size
  simp at hz5
  obtain ⟨a5, c5, hv5, _, _, _⟩ := ho5.form
  subst hv5
  have q0 : w.heap.size < w5.heap.size := by omega
  have q1 : w.heap.size + 1 < w5.heap.size := by omega
  clear KD hb4' hb5 hb5' ho5 HR4 HW4 HK4 HC4
  simp only [List.length_nil]
  go_wp2_with fail
  have hb5' : Below w5.heap.size w5 (((w5.alloc (.cells #[.int .i64 0, .int .i64 0, .slice a5 0 c5] 27)).alloc (.cells #[.int .u8 255, .int .u8 255, .int .u8 255, .int .u8 255, .int .u8 255, .int .u8 255, .int .u8 255, .int .u8 255, .int .u8 255, .int .u8 255, .int .u8 255, .int .u8 255] 43)).alloc (.cells #[.int .u8 255, .int .u8 255, .int .u8 255, .int .u8 255, .int .u8 0, .int .u8 0, .int .u8 0, .int .u8 255, .int .u8 255, .int .u8 255, .int .u8 255, .int .u8 255] 43)) := by (with_reducible repeat (first | assumption | exact Below.refl _ _ | refine Below.setCell ?_ (by first | omega | (simp; done) | (simp; omega)) _ | refine Below.drew ?_ | refine bdrewN ?_ _ | refine Below.alloc ?_ (by first | omega | (simp; done) | (simp; omega)) _))
  have KP : Blk (((w5.alloc (.cells #[.int .i64 0, .int .i64 0, .slice a5 0 c5] 27)).alloc (.cells #[.int .u8 255, .int .u8 255, .int .u8 255, .int .u8 255, .int .u8 255, .int .u8 255, .int .u8 255, .int .u8 255, .int .u8 255, .int .u8 255, .int .u8 255, .int .u8 255] 43)).alloc (.cells #[.int .u8 255, .int .u8 255, .int .u8 255, .int .u8 255, .int .u8 0, .int .u8 0, .int .u8 0, .int .u8 255, .int .u8 255, .int .u8 255, .int .u8 255, .int .u8 255] 43)) (w5.heap.size + 1) 43 #[.int .u8 255, .int .u8 255, .int .u8 255, .int .u8 255, .int .u8 255, .int .u8 255, .int .u8 255, .int .u8 255, .int .u8 255, .int .u8 255, .int .u8 255, .int .u8 255] := by (with_reducible repeat (first | assumption | (refine Blk.newAt ?_; first | rfl | (simp; done)) | refine Blk.alloc ?_ _ | refine Blk.drew ?_ | refine Blk.other ?_ (by simp) _))
  have KQ : Blk (((w5.alloc (.cells #[.int .i64 0, .int .i64 0, .slice a5 0 c5] 27)).alloc (.cells #[.int .u8 255, .int .u8 255, .int .u8 255, .int .u8 255, .int .u8 255, .int .u8 255, .int .u8 255, .int .u8 255, .int .u8 255, .int .u8 255, .int .u8 255, .int .u8 255] 43)).alloc (.cells #[.int .u8 255, .int .u8 255, .int .u8 255, .int .u8 255, .int .u8 0, .int .u8 0, .int .u8 0, .int .u8 255, .int .u8 255, .int .u8 255, .int .u8 255, .int .u8 255] 43)) (w5.heap.size + 1 + 1) 43 #[.int .u8 255, .int .u8 255, .int .u8 255, .int .u8 255, .int .u8 0, .int .u8 0, .int .u8 0, .int .u8 255, .int .u8 255, .int .u8 255, .int .u8 255, .int .u8 255] := by (with_reducible repeat (first | assumption | (refine Blk.newAt ?_; first | rfl | (simp; done)) | refine Blk.alloc ?_ _ | refine Blk.drew ?_ | refine Blk.other ?_ (by simp) _))
  refine (diff_lit (p1 := [pxW, pxW, pxW]) (p2 := [pxW, pxB, pxW]) rfl rfl (by decide) (by decide) KP KQ ex_diff).mono ?_
  rintro e w6 ⟨v6, rfl, hb6, ho6⟩
  have hb6' : Below w5.heap.size w5 w6 := bon hb5' hb5'.size hb6
  have HB6 := Lib.hid (bon HB5.out HB5.out.size hb6')
  obtain ⟨⟨x0, _⟩, ⟨x1, _⟩, ⟨x2, _⟩, x3, _⟩ := (Blk.below hb6' HW5.out).c4
  have HC6 := Lib.hid (Blk.below hb6' HC5.out)
  have HR6 := Lib.hid (HR5.out.below hb6')
  have hz6 := hb6.size
  simp at hz6
  obtain ⟨g6, c6, hv6, hc6, _, hg6, _, hcl6, _⟩ := own_some ho6 (by simp)
  subst hv6
  have HL6 := Lib.hid hcl6
  have q0 : w.heap.size < w6.heap.size := by omega
  have q1 : w.heap.size + 1 < w6.heap.size := by omega
  have hg6' : g6 < w6.heap.size := by assumption
  clear KP KQ hb5' hb6 hb6' ho6 HR5 HW5 HC5 y0 y1 y2 y3 hcl6
  simp only [List.length_cons, List.length_nil, Nat.zero_add] at hc6 ⊢
  go_wp2_with fail
  have hb6' : Below w6.heap.size w6 (w6.alloc (.cells #[.int .u8 255, .int .u8 255, .int .u8 255, .int .u8 255, .int .u8 255, .int .u8 255, .int .u8 255, .int .u8 255, .int .u8 255, .int .u8 255, .int .u8 255, .int .u8 255, .int .u8 255, .int .u8 255, .int .u8 255, .int .u8 255] 43)) := by (with_reducible repeat (first | assumption | exact Below.refl _ _ | refine Below.setCell ?_ (by first | omega | (simp; done) | (simp; omega)) _ | refine Below.drew ?_ | refine bdrewN ?_ _ | refine Below.alloc ?_ (by first | omega | (simp; done) | (simp; omega)) _))
  have KP : Blk (w6.alloc (.cells #[.int .u8 255, .int .u8 255, .int .u8 255, .int .u8 255, .int .u8 255, .int .u8 255, .int .u8 255, .int .u8 255, .int .u8 255, .int .u8 255, .int .u8 255, .int .u8 255, .int .u8 255, .int .u8 255, .int .u8 255, .int .u8 255] 43)) w6.heap.size 43 #[.int .u8 255, .int .u8 255, .int .u8 255, .int .u8 255, .int .u8 255, .int .u8 255, .int .u8 255, .int .u8 255, .int .u8 255, .int .u8 255, .int .u8 255, .int .u8 255, .int .u8 255, .int .u8 255, .int .u8 255, .int .u8 255] := by (with_reducible repeat (first | assumption | (refine Blk.newAt ?_; first | rfl | (simp; done)) | refine Blk.alloc ?_ _ | refine Blk.drew ?_ | refine Blk.other ?_ (by simp) _))
  refine (crop_lit (ps := [pxW, pxW, pxW, pxW]) (r := ⟨1, 0, 3, 1⟩) rfl (by decide) KP (by decide) ex_crop).mono ?_
  rintro e w7 ⟨v7, rfl, hb7, ho7⟩
  have hb7' : Below w6.heap.size w6 w7 := bon hb6' hb6'.size hb7
  have HB7 := Lib.hid (bon HB6.out HB6.out.size hb7')
  obtain ⟨⟨d0, _⟩, ⟨d1, _⟩, d2, _⟩ := (Blk.below hb7' HC6.out).c3
  obtain ⟨b8, o8, hA8, hbl8, p0, p1, p2, p3⟩ := HR6.out.below hb7' 0 (by decide)
  subst hA8
  have l0 := (hb7'.cell (p := ⟨g6, 0, none⟩) hg6').trans (HL6.out 0 _ rfl)
  have l1 := (hb7'.cell (p := ⟨g6, 1, none⟩) hg6').trans (HL6.out 1 _ rfl)
  have l2 := (hb7'.cell (p := ⟨g6, 2, none⟩) hg6').trans (HL6.out 2 _ rfl)
  have l3 := (hb7'.cell (p := ⟨g6, 3, none⟩) hg6').trans (HL6.out 3 _ rfl)
  simp only [Nat.zero_mul, Nat.add_zero, List.getElem_cons_zero] at p0 p1 p2 p3
  obtain ⟨a7, c7, hv7, _, _, _⟩ := ho7.form
  subst hv7
  have q3 : w3.heap.size < w7.heap.size := by have := hb7'.size; omega
  have q8 : b8 < w7.heap.size := hbl8
  have q6 : g6 < w7.heap.size := by have := hb7'.size; omega
  clear KP hb6' hb7 ho7 HR6 HC6 HL6 x0 x1 x2 x3
  simp only [List.length_nil]
  go_wp2_with fail
  go_ret
  exact ⟨rfl, HB7.out.alloc HB7.out.size _⟩
end Go.Proofs.Ytgikmcgoaihggaa
