/- The reference's Diff and OpaqueRegion. -/
import Derived.Test.YtgikmcgoaihggaaVRun
import Derived.Test.YtgikmcgoaihggaaBDiffW
import Derived.Deep.RegionHeld3
import Derived.Deep.RegionLaw
set_option linter.unusedVariables false
set_option linter.unusedSimpArgs false
namespace Go.Proofs.Ytgikmcgoaihggaa
open Go.RowKit Go.Sort
attribute [local go_sem ↓] Go.wp_at_zero Go.wp_at_succ

theorem r8opaque_any (r g b a : Int) (w : World) : Calls Try.prog 49 #[px r g b a] w fun e w' => e = .returned (.bool (decide (a = 255))) ∧ Below w.heap.size w w' := by
  by_cases h : a = 255
  · rw [decide_eq_true h]
    have h' : (a == 255) = true := by simpa using h
    clear h
    go_enter Try.func49, Try.ntmps49
    go_wp2_with fail
    go_ret
    exact ⟨rfl, by (with_reducible repeat (first | assumption | exact Below.refl _ _ | refine Below.setCell ?_ (by first | omega | (simp; done) | (simp; omega)) _ | refine Below.drew ?_ | refine bdrewN ?_ _ | refine Below.alloc ?_ (by first | omega | (simp; done) | (simp; omega)) _))⟩
  · rw [decide_eq_false h]
    have h' : (a == 255) = false := by simpa using h
    clear h
    go_enter Try.func49, Try.ntmps49
    go_wp2_with fail
    go_ret
    exact ⟨rfl, by (with_reducible repeat (first | assumption | exact Below.refl _ _ | refine Below.setCell ?_ (by first | omega | (simp; done) | (simp; omega)) _ | refine Below.drew ?_ | refine bdrewN ?_ _ | refine Below.alloc ?_ (by first | omega | (simp; done) | (simp; omega)) _))⟩
def marksL (ms : Nat → Bool) (n : Nat) : List Bool := (List.range n).map ms
theorem marksL_length (ms : Nat → Bool) (n : Nat) : (marksL ms n).length = n := by simp [marksL]
theorem marksL_succ (ms : Nat → Bool) (n : Nat) : marksL ms (n + 1) = marksL ms n ++ [ms n] := by simp [marksL, List.range_succ]
theorem marksL_mark (ms : Nat → Bool) (n i : Nat) (h : i < n) : markM (marksL ms n) i = ms i := by
  unfold markM marksL
  rw [List.getD_eq_getElem?_getD, List.getElem?_map, List.getElem?_range h]
  rfl
theorem mark_end {w : World} {base : Nat} {v : Value} {ms : Nat → Bool} {j : Nat} {d : Bool} (h : ms j = d) (r : w.ownsRow base 4 1 v (j + 1) ((marksL ms j).map Value.bool ++ [.bool d])) : OwnB w base v (marksL ms (j + 1)) := by
  show World.ownsRow _ _ _ _ _ (marksL ms (j + 1)).length _
  rw [marksL_length, marksL_succ, List.map_append, h]
  exact r
/-- The runs, with the limit. -/
def Lim (w : World) (l : List Rc) (e : Ending) (w' : World) : Prop := RectsOk w (if 256 < l.length then 5 else 0) (if 256 < l.length then [] else l) e w'
set_option maxRecDepth 100000 in
set_option maxHeartbeats 2000000 in
theorem vopaque_run (W H : Nat) (A1 : Option Addr) (p1 : List Px) (k1 : Nat) (w : World) (hW : 1 ≤ W ∧ W ≤ 256) (hH : 1 ≤ H ∧ H ≤ 256) (hlen : p1.length = H * W) (r1 : Rdp w A1 p1) (kb : bufB W H p1 = true) :
    Calls Try.prog 21 #[bufv W H (.slice A1 p1.length k1)] w (Lim w (allR (opqM p1) W H)) := by
  have hHW := Nat.mul_le_mul hH.2 hW.2
  have hV := fun W0 (hb : Below w.heap.size w W0) => vvalid_any W H A1 p1 k1 W0 (r1.below hb) (by omega)
  rw [kb] at hV
  have HV := Lib.hid hV
  have HR := Lib.hid r1
  obtain ⟨n, hn⟩ : ∃ n, p1.length = n := ⟨_, rfl⟩
  rw [hn] at HV hlen ⊢
  have hn6 : n ≤ 65536 := by omega
  have HN := Lib.hid hn
  have HL := Lib.hid hlen
  clear hV r1 hn hlen kb hHW
  go_enter Try.func21, Try.ntmps21
  go_wp2_with fail
  refine (HV.out _ (by (with_reducible repeat (first | assumption | exact Below.refl _ _ | refine Below.setCell ?_ (by first | omega | (simp; done) | (simp; omega)) _ | refine Below.drew ?_ | refine bdrewN ?_ _ | refine Below.alloc ?_ (by first | omega | (simp; done) | (simp; omega)) _)))).mono ?_; rintro e w2 ⟨rfl, hb_w2⟩
  have hB2 : Below w.heap.size w w2 := bon (by (with_reducible repeat (first | assumption | exact Below.refl _ _ | refine Below.setCell ?_ (by first | omega | (simp; done) | (simp; omega)) _ | refine Below.drew ?_ | refine bdrewN ?_ _ | refine Below.alloc ?_ (by first | omega | (simp; done) | (simp; omega)) _))) (by simp) hb_w2
  have K1 : Blk w2 (w.heap.size) 27 #[.int .i64 W, .int .i64 H, .slice A1 n k1] := Blk.below hb_w2 (by (with_reducible repeat (first | assumption | (refine Blk.newAt ?_; first | rfl | (simp; done)) | refine Blk.alloc ?_ _ | refine Blk.drew ?_ | refine Blk.other ?_ (by simp) _)))
  have HK1 := Lib.hid K1
  have HB2 := Lib.hid hB2
  clear hb_w2 K1 hB2
  go_wp2_with fail
  go_loopg [4, 5] n (fun k s4 s5 wr => ∃ j : Nat, k = n - j ∧ j ≤ n ∧ s5 = .int .i64 j ∧ Below w2.heap.size w2 wr ∧ OwnB wr w2.heap.size s4 (marksL (opqM p1) j))
  case atStart => exact ⟨0, by omega, by omega, by first | rfl | simp, Below.refl _ _, World.ownsRow_nil _ _ _ _⟩
  case round =>
    obtain ⟨j, hk, hj, rfl, hBz, hO⟩ := hrel
    have hB : Below w.heap.size w wr := bon HB2.out HB2.out.size hBz
    obtain ⟨⟨u0, _⟩, ⟨u1, _⟩, u2, _⟩ := (Blk.below hBz HK1.out).c3
    have hzz := hBz.size
    by_cases hlt : j < n
    · obtain ⟨b1, o1, hA1, hbl1, c0, c1, c2, c3⟩ := HR.out j (by rw [HN.out]; omega)
      replace c0 := (hB.cell (p := ⟨b1, o1 + j * 4, none⟩) hbl1).trans c0
      replace c1 := (hB.cell (p := ⟨b1, o1 + j * 4 + 1, none⟩) hbl1).trans c1
      replace c2 := (hB.cell (p := ⟨b1, o1 + j * 4 + 2, none⟩) hbl1).trans c2
      replace c3 := (hB.cell (p := ⟨b1, o1 + j * 4 + 3, none⟩) hbl1).trans c3
      obtain ⟨X, hX⟩ : ∃ X, p1[j]'(by rw [HN.out]; omega) = X := ⟨_, rfl⟩
      have hms : opqM p1 j = decide (X.a = 255) := by unfold opqM; rw [List.getD_eq_getElem?_getD, List.getElem?_eq_getElem (by rw [HN.out]; omega), Option.getD_some, hX]
      rw [hX] at c0 c1 c2 c3
      obtain ⟨xr, xg, xb, xa⟩ := X
      simp only at c0 c1 c2 c3 hms
      have hC := fun W0 => r8opaque_any xr xg xb xa W0
      obtain ⟨d, hd⟩ : ∃ d, decide (xa = 255) = d := ⟨_, rfl⟩
      rw [hd] at hC hms
      have HC := Lib.hid hC
      have HMS := Lib.hid hms
      have hml := marksL_length (opqM p1) j
      have ho1 := hO
      unfold OwnB at ho1
      rw [hml] at ho1
      obtain ⟨oa, oc, hoe, _, _⟩ := slice_lenR ho1
      subst hoe
      have HO := Lib.hid ho1
      subst hA1
      clear hX hC hd hms hml ho1 hO
      go_wp2_with (first | (go_at_call 49; refine (HC.out _).mono ?_; rintro e w3 ⟨rfl, hb3⟩; have hz3 := hb3.size; have HB3 := Lib.hid hb3; clear hb3) | (at_builtin; refine wpList_app _ [4] rfl el_bool (.tmp 17) (.tmp 24) rfl w2.heap.size (.slice oa j oc) j ((marksL (opqM p1) j).map Value.bool) rfl (((FrT.ofBelow HB3.out 0 []).row HO.out (.inl rfl)).alloc _) (.slice (some ⟨w3.heap.size, 0, none⟩) 1 1) 1 [.bool d] rfl (Src.blk (cs := #[.bool d]) (Blk.newAt rfl) rfl (by simp [Value.oneCell']) 1) (by omega) (by decide) (by simp; omega) rfl ?_; intro v4 w4 hr4 hf4; have HR4 := Lib.hid hr4; have HF4 := Lib.hid hf4; clear hr4 hf4))
      go_roundg (n - (j + 1))
      case measure => omega
      case rel =>
        refine ⟨j + 1, by omega, by omega, by first | rfl | simp, ?_, mark_end HMS.out HR4.out⟩
        exact (bon hBz hBz.size HB3.out).trans (((Below.refl _ _).alloc (by omega) _).trans (HF4.out.toBelow (by simp; omega)))
    · obtain rfl : n = j := by omega
      obtain ⟨A6, c6, hv6, _, _, hr6⟩ := OwnB.form hO
      subst hv6
      have hbs := marksL_length (opqM p1) n
      have hv := fun W0 (hb : Below wr.heap.size wr W0) => vruns_any W H A6 (marksL (opqM p1) n) c6 W0 hW hH (hr6.below hb) (by rw [hbs]; exact HL.out)
      rw [hbs, allR_congr (ms' := opqM p1) (fun i hi => marksL_mark _ _ _ hi) H (by rw [← HL.out]; exact Nat.le_refl _)] at hv
      rw [hbs]
      obtain ⟨l, hl⟩ : ∃ l, allR (opqM p1) W H = l := ⟨_, rfl⟩
      have hll := allR_length (opqM p1) W H
      have hll2 := Nat.mul_le_mul hH.2 hW.2
      rw [hl] at hv hll
      have HV2 := Lib.hid hv
      have HLL := Lib.hid hl
      have hll3 : l.length ≤ 9223372036854775807 := by omega
      clear hv hl hbs hll hll2 hr6
      go_wp2_with fail
      refine (HV2.out _ (by (with_reducible repeat (first | assumption | exact Below.refl _ _ | refine Below.setCell ?_ (by first | omega | (simp; done) | (simp; omega)) _ | refine Below.drew ?_ | refine bdrewN ?_ _ | refine Below.alloc ?_ (by first | omega | (simp; done) | (simp; omega)) _)))).mono ?_; rintro e w5 ⟨v5, rfl, hb5, ho5⟩
      obtain ⟨a5, e5, hv5, _, _⟩ := slice_lenR ho5
      subst hv5
      have hB5 : Below w.heap.size w w5 := bon hB hB.size hb5
      have HO5 := Lib.hid (ownsRow_mono ho5 hB.size)
      clear hb5 ho5
      by_cases hbig : 256 < l.length
      · go_wp2_with fail
        go_ret2
        have hl := HLL.out
        refine ⟨.slice none 0 0, ?_, hB5, ?_⟩
        · rw [hl, if_pos hbig]; rfl
        · rw [hl, if_pos hbig]; exact World.ownsRow_nil _ _ _ _
      · go_wp2_with fail
        go_ret2
        have hl := HLL.out
        refine ⟨.slice a5 l.length e5, ?_, hB5, ?_⟩
        · rw [hl, if_neg hbig]; rfl
        · rw [hl, if_neg hbig]; exact HO5.out
theorem opq_run {w h : Int} {p : List Px} (k : bufB w h p = true) : opqE w h p = (if 256 < (opqR w h p).length then 5 else 0) ∧ opqL w h p = if 256 < (opqR w h p).length then [] else opqR w h p := by
  have e : opqE w h p = (if 256 < (opqR w h p).length then 5 else 0) := by unfold opqE; rw [if_pos k]
  exact ⟨e, by unfold opqL; rw [e, cut5]⟩
theorem opq_bad {w h : Int} {p : List Px} (k : bufB w h p = false) : opqE w h p = 15 ∧ opqL w h p = [] := by
  have e : opqE w h p = 15 := by unfold opqE; rw [k]; rfl
  exact ⟨e, by unfold opqL; rw [e]; rfl⟩
set_option maxRecDepth 100000 in
theorem vopaque_any (w1 h1 : Int) (A1 : Option Addr) (p1 : List Px) (k1 : Nat) (w : World) (r1 : Rdp w A1 p1) (hl1 : p1.length ≤ 9223372036854775807) :
    Calls Try.prog 21 #[bufv w1 h1 (.slice A1 p1.length k1)] w (RectsOk w (opqE w1 h1 p1) (opqL w1 h1 p1)) := by
  cases k : bufB w1 h1 p1 with
  | false =>
    have hV := fun W (hb : Below w.heap.size w W) => vvalid_any w1 h1 A1 p1 k1 W (r1.below hb) hl1
    rw [k] at hV
    have HV := Lib.hid hV
    obtain ⟨q1, q2⟩ := opq_bad k
    rw [q1, q2]
    generalize p1.length = n1 at *
    clear k hV r1 q1 q2
    go_enter Try.func21, Try.ntmps21
    go_wp2_with fail
    refine (HV.out _ (by (with_reducible repeat (first | assumption | exact Below.refl _ _ | refine Below.setCell ?_ (by first | omega | (simp; done) | (simp; omega)) _ | refine Below.drew ?_ | refine bdrewN ?_ _ | refine Below.alloc ?_ (by first | omega | (simp; done) | (simp; omega)) _)))).mono ?_; rintro e w2 ⟨rfl, hb_w2⟩
    have hB2 : Below w.heap.size w w2 := bon (by (with_reducible repeat (first | assumption | exact Below.refl _ _ | refine Below.setCell ?_ (by first | omega | (simp; done) | (simp; omega)) _ | refine Below.drew ?_ | refine bdrewN ?_ _ | refine Below.alloc ?_ (by first | omega | (simp; done) | (simp; omega)) _))) (by simp) hb_w2
    clear hb_w2
    go_wp2_with fail
    go_ret2
    exact ⟨_, rfl, hB2, World.ownsRow_nil _ _ _ _⟩
  | true =>
    obtain ⟨q1, q2⟩ := opq_run k
    rw [q1, q2]
    obtain ⟨W, H, rfl, rfl, hW, hH, hlen⟩ := bufB_nat k
    exact vopaque_run W H A1 p1 k1 w hW hH hlen r1 k
set_option maxRecDepth 100000 in
set_option maxHeartbeats 4000000 in
theorem vdiff_run (W H : Nat) (A1 : Option Addr) (p1 : List Px) (k1 : Nat) (A2 : Option Addr) (p2 : List Px) (k2 : Nat) (w : World) (hW : 1 ≤ W ∧ W ≤ 256) (hH : 1 ≤ H ∧ H ≤ 256) (hlen : p1.length = H * W) (hlen2 : p2.length = H * W) (r1 : Rdp w A1 p1) (r2 : Rdp w A2 p2)
    (kb : bufB W H p1 = true) (kb2 : bufB W H p2 = true) :
    Calls Try.prog 18 #[bufv W H (.slice A1 p1.length k1), bufv W H (.slice A2 p2.length k2)] w (Lim w (allR (diffM p1 p2) W H)) := by
  have hHW := Nat.mul_le_mul hH.2 hW.2
  have hV1 := fun W0 (hb : Below w.heap.size w W0) => vvalid_any W H A1 p1 k1 W0 (r1.below hb) (by omega)
  have hV2 := fun W0 (hb : Below w.heap.size w W0) => vvalid_any W H A2 p2 k2 W0 (r2.below hb) (by omega)
  rw [kb] at hV1
  rw [kb2] at hV2
  obtain ⟨n, hn⟩ : ∃ n, p1.length = n := ⟨_, rfl⟩
  have hn2 : p2.length = n := by omega
  rw [hn] at hV1 hlen ⊢
  rw [hn2] at hV2 ⊢
  have HV1 := Lib.hid hV1
  have HV2' := Lib.hid hV2
  have HR1 := Lib.hid r1
  have HR2 := Lib.hid r2
  have hn6 : n ≤ 65536 := by omega
  have HN1 := Lib.hid hn
  have HN2 := Lib.hid hn2
  have HL := Lib.hid hlen
  clear hV1 hV2 r1 r2 hn hn2 hlen hlen2 kb kb2 hHW
  go_enter Try.func18, Try.ntmps18
  go_wp2_with fail
  refine (HV1.out _ (by (with_reducible repeat (first | assumption | exact Below.refl _ _ | refine Below.setCell ?_ (by first | omega | (simp; done) | (simp; omega)) _ | refine Below.drew ?_ | refine bdrewN ?_ _ | refine Below.alloc ?_ (by first | omega | (simp; done) | (simp; omega)) _)))).mono ?_; rintro e w1 ⟨rfl, hb_w1⟩
  have hB1 : Below w.heap.size w w1 := bon (by (with_reducible repeat (first | assumption | exact Below.refl _ _ | refine Below.setCell ?_ (by first | omega | (simp; done) | (simp; omega)) _ | refine Below.drew ?_ | refine bdrewN ?_ _ | refine Below.alloc ?_ (by first | omega | (simp; done) | (simp; omega)) _))) (by simp; omega) hb_w1
  have K1 : Blk w1 (w.heap.size) 27 #[.int .i64 W, .int .i64 H, .slice A1 n k1] := Blk.below hb_w1 (by (with_reducible repeat (first | assumption | (refine Blk.newAt ?_; first | rfl | (simp; done)) | refine Blk.alloc ?_ _ | refine Blk.drew ?_ | refine Blk.other ?_ (by simp) _)))
  have K2 : Blk w1 (w.heap.size + 1) 27 #[.int .i64 W, .int .i64 H, .slice A2 n k2] := Blk.below hb_w1 (by (with_reducible repeat (first | assumption | (refine Blk.newAt ?_; first | rfl | (simp; done)) | refine Blk.alloc ?_ _ | refine Blk.drew ?_ | refine Blk.other ?_ (by simp) _)))
  obtain ⟨⟨v0, _⟩, ⟨v1, _⟩, v2, _⟩ := K2.c3
  have HK1 := Lib.hid K1
  have HK2 := Lib.hid K2
  clear hb_w1 K1 K2
  go_wp2_with fail
  refine (HV2'.out _ (by (with_reducible repeat (first | assumption | exact Below.refl _ _ | refine Below.setCell ?_ (by first | omega | (simp; done) | (simp; omega)) _ | refine Below.drew ?_ | refine bdrewN ?_ _ | refine Below.alloc ?_ (by first | omega | (simp; done) | (simp; omega)) _)))).mono ?_; rintro e w2 ⟨rfl, hb_w2⟩
  have hB2 : Below w.heap.size w w2 := bon hB1 hB1.size hb_w2
  have HK1 := Lib.hid (Blk.below hb_w2 HK1.out)
  have HK2 := Lib.hid (Blk.below hb_w2 HK2.out)
  obtain ⟨⟨u0, _⟩, ⟨u1, _⟩, u2, _⟩ := HK1.out.c3
  obtain ⟨⟨v0, _⟩, ⟨v1, _⟩, v2, _⟩ := HK2.out.c3
  have hz1 : w.heap.size < w2.heap.size := HK1.out.lt
  have hz2 : w.heap.size + 1 < w2.heap.size := HK2.out.lt
  have HB2 := Lib.hid hB2
  clear hb_w2 hB1 hB2
  go_wp2_with fail
  go_loopg [6, 7] n (fun k s6 s7 wr => ∃ j : Nat, k = n - j ∧ j ≤ n ∧ s7 = .int .i64 j ∧ Below w2.heap.size w2 wr ∧ OwnB wr w2.heap.size s6 (marksL (diffM p1 p2) j))
  case atStart => exact ⟨0, by omega, by omega, by first | rfl | simp, Below.refl _ _, World.ownsRow_nil _ _ _ _⟩
  case round =>
    obtain ⟨j, hk, hj, rfl, hBz, hO⟩ := hrel
    have hB : Below w.heap.size w wr := bon HB2.out HB2.out.size hBz
    replace u0 := (Blk.below hBz HK1.out).c3.1.1
    replace u1 := (Blk.below hBz HK1.out).c3.2.1.1
    replace u2 := (Blk.below hBz HK1.out).c3.2.2.1
    replace v2 := (Blk.below hBz HK2.out).c3.2.2.1
    have hzz := hBz.size
    by_cases hlt : j < n
    · obtain ⟨b1, o1, hA1, hbl1, c0, c1, c2, c3⟩ := HR1.out j (by rw [HN1.out]; omega)
      replace c0 := (hB.cell (p := ⟨b1, o1 + j * 4, none⟩) hbl1).trans c0
      replace c1 := (hB.cell (p := ⟨b1, o1 + j * 4 + 1, none⟩) hbl1).trans c1
      replace c2 := (hB.cell (p := ⟨b1, o1 + j * 4 + 2, none⟩) hbl1).trans c2
      replace c3 := (hB.cell (p := ⟨b1, o1 + j * 4 + 3, none⟩) hbl1).trans c3
      obtain ⟨b2, o2, hA2, hbl2, d0, d1, d2, d3⟩ := HR2.out j (by rw [HN2.out]; omega)
      replace d0 := (hB.cell (p := ⟨b2, o2 + j * 4, none⟩) hbl2).trans d0
      replace d1 := (hB.cell (p := ⟨b2, o2 + j * 4 + 1, none⟩) hbl2).trans d1
      replace d2 := (hB.cell (p := ⟨b2, o2 + j * 4 + 2, none⟩) hbl2).trans d2
      replace d3 := (hB.cell (p := ⟨b2, o2 + j * 4 + 3, none⟩) hbl2).trans d3
      obtain ⟨X, hX⟩ : ∃ X, p1[j]'(by rw [HN1.out]; omega) = X := ⟨_, rfl⟩
      obtain ⟨Y, hY⟩ : ∃ Y, p2[j]'(by rw [HN2.out]; omega) = Y := ⟨_, rfl⟩
      have hms : diffM p1 p2 j = decide (X ≠ Y) := by
        unfold diffM
        rw [List.getD_eq_getElem?_getD, List.getD_eq_getElem?_getD, List.getElem?_eq_getElem (by rw [HN1.out]; omega), List.getElem?_eq_getElem (by rw [HN2.out]; omega), Option.getD_some, Option.getD_some, hX, hY]
      rw [hX] at c0 c1 c2 c3
      rw [hY] at d0 d1 d2 d3
      obtain ⟨xr, xg, xb, xa⟩ := X
      obtain ⟨yr, yg, yb, ya⟩ := Y
      simp only at c0 c1 c2 c3 d0 d1 d2 d3
      have hml := marksL_length (diffM p1 p2) j
      have ho1 := hO
      unfold OwnB at ho1
      rw [hml] at ho1
      obtain ⟨oa, oc, hoe, _, _⟩ := slice_lenR ho1
      subst hoe
      have HO := Lib.hid ho1
      subst hA1
      subst hA2
      have i0 : (0 : Int) ≤ (j : Int) := by omega
      have i1 : (j : Int) < (n : Int) := by omega
      have hA1 : j + 1 ≤ 1000000 := by omega
      have hbr1 : b1 < w2.heap.size := Nat.lt_of_lt_of_le hbl1 HB2.out.size
      have hbr2 : b2 < w2.heap.size := Nat.lt_of_lt_of_le hbl2 HB2.out.size
      clear hX hY hml ho1 hO
      by_cases hxy : (⟨xr, xg, xb, xa⟩ : Px) = ⟨yr, yg, yb, ya⟩
      · rw [decide_eq_false (fun k => k hxy)] at hms
        have HMS := Lib.hid hms
        simp only [Px.mk.injEq] at hxy
        obtain ⟨rfl, rfl, rfl, rfl⟩ := hxy
        clear hms
        go_wp2_with fail
        go_region_law ((refine step_app _ [4] rfl el_bool (.tmp 36) (.tmp 48) rfl w2.heap.size (.slice oa j oc) j ((marksL (diffM p1 p2) j).map Value.bool) rfl (HO.out.drew.alloc _) (.slice (some ⟨wr.heap.size, 0, none⟩) 1 1) 1 [.bool false] rfl (Src.blk (cs := #[.bool false]) (Blk.newAt rfl) rfl (by simp [Value.oneCell']) 1) hA1 (by decide) (by simp; exact Nat.le_succ_of_le hzz) rfl ?_; intro v4 w4 hr4 hf4; have hx4 : Below w2.heap.size wr w4 := (((Below.refl _ _).drew).alloc (by simpa using hzz) _).trans (hf4.toBelow (by simp; exact Nat.le_succ_of_le hzz)); have HR4 := Lib.hid hr4; have HX4 := Lib.hid hx4; clear hr4 hf4 hx4))
        all_goals
          go_wp2_with fail
          go_roundg (n - (j + 1))
          case measure => omega
          case rel => exact ⟨j + 1, by omega, by omega, by first | rfl | simp, hBz.trans HX4.out, mark_end HMS.out HR4.out⟩
      · rw [decide_eq_true hxy] at hms
        have HMS := Lib.hid hms
        have hd := px_ne hxy
        clear hms hxy
        rcases hd with e1 | ⟨e1, e2 | ⟨e2, e3 | ⟨e3, e4⟩⟩⟩
        all_goals
          go_wp2_with fail
          go_region_law ((refine step_app _ [4] rfl el_bool (.tmp 36) (.tmp 48) rfl w2.heap.size (.slice oa j oc) j ((marksL (diffM p1 p2) j).map Value.bool) rfl (HO.out.drew.alloc _) (.slice (some ⟨wr.heap.size, 0, none⟩) 1 1) 1 [.bool true] rfl (Src.blk (cs := #[.bool true]) (Blk.newAt rfl) rfl (by simp [Value.oneCell']) 1) hA1 (by decide) (by simp; exact Nat.le_succ_of_le hzz) rfl ?_; intro v4 w4 hr4 hf4; have hx4 : Below w2.heap.size wr w4 := (((Below.refl _ _).drew).alloc (by simpa using hzz) _).trans (hf4.toBelow (by simp; exact Nat.le_succ_of_le hzz)); have HR4 := Lib.hid hr4; have HX4 := Lib.hid hx4; clear hr4 hf4 hx4))
          all_goals
            go_wp2_with fail
            go_roundg (n - (j + 1))
            case measure => omega
            case rel => exact ⟨j + 1, by omega, by omega, by first | rfl | simp, hBz.trans HX4.out, mark_end HMS.out HR4.out⟩
    · obtain rfl : n = j := by omega
      obtain ⟨A6, c6, hv6, _, _, hr6⟩ := OwnB.form hO
      subst hv6
      have hbs := marksL_length (diffM p1 p2) n
      have hv := fun W0 (hb : Below wr.heap.size wr W0) => vruns_any W H A6 (marksL (diffM p1 p2) n) c6 W0 hW hH (hr6.below hb) (by rw [hbs]; exact HL.out)
      rw [hbs, allR_congr (ms' := diffM p1 p2) (fun i hi => marksL_mark _ _ _ hi) H (by rw [← HL.out]; exact Nat.le_refl _)] at hv
      rw [hbs]
      obtain ⟨l, hl⟩ : ∃ l, allR (diffM p1 p2) W H = l := ⟨_, rfl⟩
      have hll := allR_length (diffM p1 p2) W H
      have hll2 := Nat.mul_le_mul hH.2 hW.2
      rw [hl] at hv hll
      have HV2 := Lib.hid hv
      have HLL := Lib.hid hl
      have hll3 : l.length ≤ 9223372036854775807 := by omega
      clear hv hl hbs hll hll2 hr6
      go_wp2_with fail
      refine (HV2.out _ (by (with_reducible repeat (first | assumption | exact Below.refl _ _ | refine Below.setCell ?_ (by first | omega | (simp; done) | (simp; omega)) _ | refine Below.drew ?_ | refine bdrewN ?_ _ | refine Below.alloc ?_ (by first | omega | (simp; done) | (simp; omega)) _)))).mono ?_; rintro e w5 ⟨v5, rfl, hb5, ho5⟩
      obtain ⟨a5, e5, hv5, _, _⟩ := slice_lenR ho5
      subst hv5
      have hB5 : Below w.heap.size w w5 := bon hB hB.size hb5
      have HO5 := Lib.hid (ownsRow_mono ho5 hB.size)
      clear hb5 ho5
      by_cases hbig : 256 < l.length
      · go_wp2_with fail
        go_ret2
        have hl := HLL.out
        refine ⟨.slice none 0 0, ?_, hB5, ?_⟩
        · rw [hl, if_pos hbig]; rfl
        · rw [hl, if_pos hbig]; exact World.ownsRow_nil _ _ _ _
      · go_wp2_with fail
        go_ret2
        have hl := HLL.out
        refine ⟨.slice a5 l.length e5, ?_, hB5, ?_⟩
        · rw [hl, if_neg hbig]; rfl
        · rw [hl, if_neg hbig]; exact HO5.out
set_option maxRecDepth 100000 in
set_option maxHeartbeats 4000000 in
theorem vdiff_any (w1 h1 : Int) (A1 : Option Addr) (p1 : List Px) (k1 : Nat) (w2 h2 : Int) (A2 : Option Addr) (p2 : List Px) (k2 : Nat) (w : World) (r1 : Rdp w A1 p1) (r2 : Rdp w A2 p2) (hl1 : p1.length ≤ 9223372036854775807) (hl2 : p2.length ≤ 9223372036854775807) :
    Calls Try.prog 18 #[bufv w1 h1 (.slice A1 p1.length k1), bufv w2 h2 (.slice A2 p2.length k2)] w (RectsOk w (diffE w1 h1 p1 w2 h2 p2) (diffL w1 h1 p1 w2 h2 p2)) := by
  have hV1 := fun W (hb : Below w.heap.size w W) => vvalid_any w1 h1 A1 p1 k1 W (r1.below hb) hl1
  have hV2 := fun W (hb : Below w.heap.size w W) => vvalid_any w2 h2 A2 p2 k2 W (r2.below hb) hl2
  cases e1 : bufB w1 h1 p1 with
  | false =>
    obtain ⟨q1, q2⟩ := diff_bad (w1 := w1) (h1 := h1) (p1 := p1) (w2 := w2) (h2 := h2) (p2 := p2) (by rw [e1]; simp)
    rw [q1, q2]
    clear q1 q2
    rw [e1] at hV1
    have HV1 := Lib.hid hV1
    generalize p1.length = n1 at *
    generalize p2.length = n2 at *
    clear e1 hV1 hV2 r1 r2
    go_enter Try.func18, Try.ntmps18
    go_wp2_with fail
    refine (HV1.out _ (by (with_reducible repeat (first | assumption | exact Below.refl _ _ | refine Below.setCell ?_ (by first | omega | (simp; done) | (simp; omega)) _ | refine Below.drew ?_ | refine bdrewN ?_ _ | refine Below.alloc ?_ (by first | omega | (simp; done) | (simp; omega)) _)))).mono ?_; rintro e wx ⟨rfl, hb_wx⟩
    have hB2 : Below w.heap.size w wx := bon (by (with_reducible repeat (first | assumption | exact Below.refl _ _ | refine Below.setCell ?_ (by first | omega | (simp; done) | (simp; omega)) _ | refine Below.drew ?_ | refine bdrewN ?_ _ | refine Below.alloc ?_ (by first | omega | (simp; done) | (simp; omega)) _))) (by simp; try omega) hb_wx
    clear hb_wx
    go_wp2_with fail
    go_ret2
    exact ⟨_, rfl, hB2, World.ownsRow_nil _ _ _ _⟩
  | true =>
    cases e2 : bufB w2 h2 p2 with
    | false =>
      obtain ⟨q1, q2⟩ := diff_bad (w1 := w1) (h1 := h1) (p1 := p1) (w2 := w2) (h2 := h2) (p2 := p2) (by rw [e2]; simp)
      rw [q1, q2]
      clear q1 q2
      rw [e1] at hV1
      have HV1 := Lib.hid hV1
      rw [e2] at hV2
      have HV2 := Lib.hid hV2
      generalize p1.length = n1 at *
      generalize p2.length = n2 at *
      clear e1 e2 hV1 hV2 r1 r2
      go_enter Try.func18, Try.ntmps18
      go_wp2_with fail
      refine (HV1.out _ (by (with_reducible repeat (first | assumption | exact Below.refl _ _ | refine Below.setCell ?_ (by first | omega | (simp; done) | (simp; omega)) _ | refine Below.drew ?_ | refine bdrewN ?_ _ | refine Below.alloc ?_ (by first | omega | (simp; done) | (simp; omega)) _)))).mono ?_; rintro e wx ⟨rfl, hb_wx⟩
      have hB2 : Below w.heap.size w wx := bon (by (with_reducible repeat (first | assumption | exact Below.refl _ _ | refine Below.setCell ?_ (by first | omega | (simp; done) | (simp; omega)) _ | refine Below.drew ?_ | refine bdrewN ?_ _ | refine Below.alloc ?_ (by first | omega | (simp; done) | (simp; omega)) _))) (by simp; try omega) hb_wx
      have K3 : Blk wx (w.heap.size + 1) 27 #[.int .i64 w2, .int .i64 h2, .slice A2 n2 k2] := Blk.below hb_wx (by (with_reducible repeat (first | assumption | (refine Blk.newAt ?_; first | rfl | (simp; done)) | refine Blk.alloc ?_ _ | refine Blk.drew ?_ | refine Blk.other ?_ (by simp) _)))
      obtain ⟨⟨d0, _⟩, ⟨d1, _⟩, d2, _⟩ := K3.c3
      clear hb_wx K3
      go_wp2_with fail
      refine (HV2.out _ (by (with_reducible repeat (first | assumption | exact Below.refl _ _ | refine Below.setCell ?_ (by first | omega | (simp; done) | (simp; omega)) _ | refine Below.drew ?_ | refine bdrewN ?_ _ | refine Below.alloc ?_ (by first | omega | (simp; done) | (simp; omega)) _)))).mono ?_; rintro e wy ⟨rfl, hb_wy⟩
      have hB3 : Below w.heap.size w wy := bon hB2 hB2.size hb_wy
      clear hb_wy
      go_wp2_with fail
      go_ret2
      exact ⟨_, rfl, hB3, World.ownsRow_nil _ _ _ _⟩
    | true =>
      by_cases hs : w1 = w2 ∧ h1 = h2
      · obtain ⟨q1, q2⟩ := diff_run (p1 := p1) (p2 := p2) ⟨e1, e2⟩ hs
        rw [q1, q2]
        obtain ⟨rfl, rfl⟩ := hs
        obtain ⟨W, H, rfl, rfl, hW, hH, hlen⟩ := bufB_nat e1
        obtain ⟨W', H', hw', hh', _, _, hlen2⟩ := bufB_nat e2
        obtain rfl : W = W' := by omega
        obtain rfl : H = H' := by omega
        exact vdiff_run W H A1 p1 k1 A2 p2 k2 w hW hH hlen hlen2 r1 r2 e1 e2
      · obtain ⟨q1, q2⟩ := diff_size (p1 := p1) (p2 := p2) ⟨e1, e2⟩ hs
        rw [q1, q2]
        have hne : (w1 != w2) = true ∨ (w1 != w2) = false ∧ (h1 != h2) = true := by
          rw [bne_iff_ne, bne_iff_ne, bne_eq_false_iff_eq]
          omega
        rw [e1] at hV1
        have HV1 := Lib.hid hV1
        rw [e2] at hV2
        have HV2 := Lib.hid hV2
        generalize p1.length = n1 at *
        generalize p2.length = n2 at *
        clear q1 q2 hs e1 e2 hV1 hV2 r1 r2
        rcases hne with e1 | ⟨e1, e2⟩
        all_goals
          go_enter Try.func18, Try.ntmps18
          go_wp2_with fail
          refine (HV1.out _ (by (with_reducible repeat (first | assumption | exact Below.refl _ _ | refine Below.setCell ?_ (by first | omega | (simp; done) | (simp; omega)) _ | refine Below.drew ?_ | refine bdrewN ?_ _ | refine Below.alloc ?_ (by first | omega | (simp; done) | (simp; omega)) _)))).mono ?_; rintro e wx ⟨rfl, hb_wx⟩
          have hB2 : Below w.heap.size w wx := bon (by (with_reducible repeat (first | assumption | exact Below.refl _ _ | refine Below.setCell ?_ (by first | omega | (simp; done) | (simp; omega)) _ | refine Below.drew ?_ | refine bdrewN ?_ _ | refine Below.alloc ?_ (by first | omega | (simp; done) | (simp; omega)) _))) (by simp; try omega) hb_wx
          have K2 : Blk wx (w.heap.size) 27 #[.int .i64 w1, .int .i64 h1, .slice A1 n1 k1] := Blk.below hb_wx (by (with_reducible repeat (first | assumption | (refine Blk.newAt ?_; first | rfl | (simp; done)) | refine Blk.alloc ?_ _ | refine Blk.drew ?_ | refine Blk.other ?_ (by simp) _)))
          have K3 : Blk wx (w.heap.size + 1) 27 #[.int .i64 w2, .int .i64 h2, .slice A2 n2 k2] := Blk.below hb_wx (by (with_reducible repeat (first | assumption | (refine Blk.newAt ?_; first | rfl | (simp; done)) | refine Blk.alloc ?_ _ | refine Blk.drew ?_ | refine Blk.other ?_ (by simp) _)))
          obtain ⟨⟨d0, _⟩, ⟨d1, _⟩, d2, _⟩ := K3.c3
          have HK2 := Lib.hid K2
          have HK3 := Lib.hid K3
          clear hb_wx K2 K3
          go_wp2_with fail
          refine (HV2.out _ (by (with_reducible repeat (first | assumption | exact Below.refl _ _ | refine Below.setCell ?_ (by first | omega | (simp; done) | (simp; omega)) _ | refine Below.drew ?_ | refine bdrewN ?_ _ | refine Below.alloc ?_ (by first | omega | (simp; done) | (simp; omega)) _)))).mono ?_; rintro e wy ⟨rfl, hb_wy⟩
          have hB3 : Below w.heap.size w wy := bon hB2 hB2.size hb_wy
          obtain ⟨⟨c0, _⟩, ⟨c1, _⟩, c2, _⟩ := (Blk.below hb_wy HK2.out).c3
          obtain ⟨⟨d0, _⟩, ⟨d1, _⟩, d2, _⟩ := (Blk.below hb_wy HK3.out).c3
          clear hb_wy
          go_wp2_with fail
          go_ret2
          exact ⟨_, rfl, hB3, World.ownsRow_nil _ _ _ _⟩
end Go.Proofs.Ytgikmcgoaihggaa
