/- BufferBasics: the walk. -/
import Derived.Test.YtgikmcgoaihggaaBEx
import Derived.Test.YtgikmcgoaihggaaBEq
import Derived.Test.YtgikmcgoaihggaaBAt
import Derived.Test.YtgikmcgoaihggaaOpenB
set_option linter.unusedVariables false
set_option linter.unusedSimpArgs false
namespace Go.Proofs.Ytgikmcgoaihggaa
open Go.RowKit Go.Sort
attribute [local go_sem ↓] Go.wp_at_zero Go.wp_at_succ
attribute [local go_sem] calm calmAt calmUpon

set_option maxRecDepth 100000 in
set_option maxHeartbeats 1000000 in
theorem bufferbasics_any (w1 h1 : Int) (A1 : Option Addr) (p1 : List Px) (k1 : Nat) (w2 h2 : Int) (A2 : Option Addr) (p2 : List Px) (k2 : Nat) (x y : Int) (w : World) (hl1 : p1.length ≤ k1 ∧ k1 ≤ 9223372036854775807) (hl2 : p2.length ≤ k2 ∧ k2 ≤ 9223372036854775807) (r1 : Rdp w A1 p1) (r2 : Rdp w A2 p2) :
    Calls Try.prog 6 #[bufv w1 h1 (.slice A1 p1.length k1), bufv w2 h2 (.slice A2 p2.length k2), .agg #[.int .i64 x, .int .i64 y]] w fun e w' => e = .returned (.bool true) ∧ Below w.heap.size w w' := by
  have m1 : p1.length ≤ 9223372036854775807 := by omega
  have m2 : p2.length ≤ 9223372036854775807 := by omega
  have hS1 := fun W => lbsmall_any w1 h1 A1 p1.length k1 W m1
  have hS2 := fun W => lbsmall_any w2 h2 A2 p2.length k2 W m2
  have hV1 := fun W (hb : Below w.heap.size w W) => bvalid_any w1 h1 A1 p1 k1 W (r1.below hb) m1
  have hV2 := fun W (hb : Below w.heap.size w W) => vvalid_any w1 h1 A1 p1 k1 W (r1.below hb) m1
  have hA1 := fun W (hb : Below w.heap.size w W) => bat_any w1 h1 x y A1 p1 k1 W (r1.below hb) m1
  have hA2 := fun W (hb : Below w.heap.size w W) => vat_any w1 h1 x y A1 p1 k1 W (r1.below hb) m1
  have hE1 := fun W (hb : Below w.heap.size w W) => bequal_any w1 h1 A1 p1 k1 w2 h2 A2 p2 k2 W (r1.below hb) (r2.below hb) m1 m2
  have hE2 := fun W (hb : Below w.heap.size w W) => vequal_any w1 h1 A1 p1 k1 w2 h2 A2 p2 k2 W (r1.below hb) (r2.below hb) m1 m2
  have hE3 := fun W (hb : Below w.heap.size w W) => bequal_any w1 h1 A1 p1 k1 w1 h1 A1 p1 k1 W (r1.below hb) (r1.below hb) m1 m1
  simp only [eqB_self] at hE3
  generalize atP w1 h1 p1 x y = P at *
  obtain ⟨xr, xg, xb, xa⟩ := P
  simp only at hA1 hA2
  generalize eqB w1 h1 p1 w2 h2 p2 = eb at *
  generalize bufB w1 h1 p1 = vb at *
  generalize p1.length = n1 at *
  generalize p2.length = n2 at *
  have HV1 := Lib.hid hV1
  have HV2 := Lib.hid hV2
  have HA1 := Lib.hid hA1
  have HA2 := Lib.hid hA2
  have hE : ∀ W, Below w.heap.size w W → ∀ (v : Value) (b : Bool), (v = bufv w2 h2 (.slice A2 n2 k2) ∧ b = eb) ∨ (v = bufv w1 h1 (.slice A1 n1 k1) ∧ b = true) → Calls Try.prog 29 #[bufv w1 h1 (.slice A1 n1 k1), v] W fun e w' => e = .returned (.bool b) ∧ Below W.heap.size W w' := by
    rintro W hb v b (⟨rfl, rfl⟩ | ⟨rfl, rfl⟩)
    · exact hE1 W hb
    · exact hE3 W hb
  have HE := Lib.hid hE
  have HE2 := Lib.hid hE2
  clear hV1 hV2 hA1 hA2 hE hE1 hE2 hE3 r1 r2
  by_cases s1 : n1 ≤ 400
  · rw [decide_eq_true s1] at hS1
    by_cases s2 : n2 ≤ 400
    · rw [decide_eq_true s2] at hS2
      have HS1 := Lib.hid hS1
      have HS2 := Lib.hid hS2
      clear hS1 hS2
      go_enter Try.func6, Try.ntmps6
      go_wp2_with fail
      refine (HS1.out _).mono ?_; rintro e w3 ⟨rfl, hb_w3⟩
      have hB3 : Below w.heap.size w w3 := bon (by (with_reducible repeat (first | assumption | exact Below.refl _ _ | refine Below.setCell ?_ (by first | omega | (simp; done) | (simp; omega)) _ | refine Below.drew ?_ | refine bdrewN ?_ _ | refine Below.alloc ?_ (by first | omega | (simp; done) | (simp; omega)) _))) (by simp; omega) hb_w3
      have K3 : Blk w3 (w.heap.size) 27 #[.int .i64 w1, .int .i64 h1, .slice A1 n1 k1] := Blk.below hb_w3 (by (with_reducible repeat (first | assumption | (refine Blk.newAt ?_; first | rfl | (simp; done)) | refine Blk.alloc ?_ _ | refine Blk.drew ?_ | refine Blk.other ?_ (by simp) _)))
      have K4 : Blk w3 (w.heap.size + 1) 27 #[.int .i64 w2, .int .i64 h2, .slice A2 n2 k2] := Blk.below hb_w3 (by (with_reducible repeat (first | assumption | (refine Blk.newAt ?_; first | rfl | (simp; done)) | refine Blk.alloc ?_ _ | refine Blk.drew ?_ | refine Blk.other ?_ (by simp) _)))
      have K5 : Blk w3 (w.heap.size + 1 + 1) 41 #[.int .i64 x, .int .i64 y] := Blk.below hb_w3 (by (with_reducible repeat (first | assumption | (refine Blk.newAt ?_; first | rfl | (simp; done)) | refine Blk.alloc ?_ _ | refine Blk.drew ?_ | refine Blk.other ?_ (by simp) _)))
      obtain ⟨⟨d0, _⟩, ⟨d1, _⟩, d2, _⟩ := K4.c3
      have HK3 := Lib.hid K3
      have HK4 := Lib.hid K4
      have HK5 := Lib.hid K5
      clear hb_w3 K3 K4 K5
      go_wp2_with fail
      refine (HS2.out _).mono ?_; rintro e w4 ⟨rfl, hb_w4⟩
      have hB4 : Below w.heap.size w w4 := bon hB3 hB3.size hb_w4
      obtain ⟨⟨c0, _⟩, ⟨c1, _⟩, c2, _⟩ := (Blk.below hb_w4 HK3.out).c3
      obtain ⟨⟨d0, _⟩, ⟨d1, _⟩, d2, _⟩ := (Blk.below hb_w4 HK4.out).c3
      obtain ⟨⟨e0, _⟩, e1, _⟩ := (Blk.below hb_w4 HK5.out).c2
      have g0 := cell_regrown c0
      have g1 := cell_regrown c1
      have g2 := cell_regrown c2
      have g3 := cell_regrown d0
      have g4 := cell_regrown d1
      have g5 := cell_regrown d2
      have g6 := cell_regrown e0
      have g7 := cell_regrown e1
      have HU := Lib.hid (fun d os => bon hB4 hB4.size (below_regrown w4 d os))
      clear hb_w4 hB3
      go_upto_region 3 with fail
      (refine wp_region_calm 36 [] [false, false, false, false, false, false, false, false, false, false, false, false, false, false, false, false, false, false, false, false, false, false, false, false, false, false, false, false, false, false, false, false, false, false, false, false] (by kernel_rfl) (by kernel_rfl) (by decide) (freshOk_of (by kernel_rfl) (by kernel_rfl) (fun x hx => by cases hx)) ?_; simp only [List.take_succ_cons, List.take_zero, List.drop_succ_cons, List.drop_zero, List.zip_cons_cons, List.zip_nil_left, List.zip_nil_right]; (repeat (first | refine wpCalm_pass ?_ | (refine wpCalm_step (fun K hK => ?_); go_simp; first | (refine hK _ ?_; clear hK K) | (apply Exists.intro; refine ⟨fun _ => ?_, hK _ ?_⟩; (first | (go_at_call 26; exact HV1.out _ (HU.out _ _)) | (go_at_call 25; exact HV2.out _ (HU.out _ _)) | (go_at_call 27; exact HA1.out _ (HU.out _ _)) | (go_at_call 28; exact HA2.out _ (HU.out _ _)) | (go_at_call 29; exact HE.out _ (HU.out _ _) _ _ (by first | exact .inl ⟨rfl, rfl⟩ | exact .inr ⟨rfl, rfl⟩)) | (go_at_call 16; exact HE2.out _ (HU.out _ _)) | (go_at_call 13; exact lbex_true _)); clear hK K)))); (first | refine wpCalm_nil ?_ | skip))
      intro F wz hF
      obtain rfl := hF.nil
      have hBz : Below w.heap.size w wz := bon hB4 hB4.size hF.below
      clear g0 g1 g2 g3 g4 g5 g6 g7 hF
      unfold putL
      go_wp2_with fail
      go_ret
      exact ⟨rfl, hBz⟩
    · rw [decide_eq_false s2] at hS2
      have HS1 := Lib.hid hS1
      have HS2 := Lib.hid hS2
      clear hS1 hS2
      go_enter Try.func6, Try.ntmps6
      go_wp2_with fail
      refine (HS1.out _).mono ?_; rintro e w3 ⟨rfl, hb_w3⟩
      have hB3 : Below w.heap.size w w3 := bon (by (with_reducible repeat (first | assumption | exact Below.refl _ _ | refine Below.setCell ?_ (by first | omega | (simp; done) | (simp; omega)) _ | refine Below.drew ?_ | refine bdrewN ?_ _ | refine Below.alloc ?_ (by first | omega | (simp; done) | (simp; omega)) _))) (by simp; omega) hb_w3
      have K4 : Blk w3 (w.heap.size + 1) 27 #[.int .i64 w2, .int .i64 h2, .slice A2 n2 k2] := Blk.below hb_w3 (by (with_reducible repeat (first | assumption | (refine Blk.newAt ?_; first | rfl | (simp; done)) | refine Blk.alloc ?_ _ | refine Blk.drew ?_ | refine Blk.other ?_ (by simp) _)))
      obtain ⟨⟨d0, _⟩, ⟨d1, _⟩, d2, _⟩ := K4.c3
      clear hb_w3 K4
      go_wp2_with fail
      refine (HS2.out _).mono ?_; rintro e w4 ⟨rfl, hb_w4⟩
      have hB4 : Below w.heap.size w w4 := bon hB3 hB3.size hb_w4
      clear hb_w4
      go_wp2_with fail
      (refine (lbex_true _).mono ?_; rintro e wx ⟨rfl, hb_wx⟩; have hBx : Below w.heap.size w wx := bon hB4 (by first | exact (hB4).size | (simp; omega)) hb_wx; clear hb_wx; go_wp2_with fail; go_ret; exact ⟨rfl, hBx⟩)
  · rw [decide_eq_false s1] at hS1
    have HS1 := Lib.hid hS1
    clear hS1 hS2
    go_enter Try.func6, Try.ntmps6
    go_wp2_with fail
    refine (HS1.out _).mono ?_; rintro e w3 ⟨rfl, hb_w3⟩
    have hB3 : Below w.heap.size w w3 := bon (by (with_reducible repeat (first | assumption | exact Below.refl _ _ | refine Below.setCell ?_ (by first | omega | (simp; done) | (simp; omega)) _ | refine Below.drew ?_ | refine bdrewN ?_ _ | refine Below.alloc ?_ (by first | omega | (simp; done) | (simp; omega)) _))) (by simp; omega) hb_w3
    clear hb_w3
    go_wp2_with fail
    (refine (lbex_true _).mono ?_; rintro e wx ⟨rfl, hb_wx⟩; have hBx : Below w.heap.size w wx := bon hB3 (by first | exact (hB3).size | (simp; omega)) hb_wx; clear hb_wx; go_wp2_with fail; go_ret; exact ⟨rfl, hBx⟩)
end Go.Proofs.Ytgikmcgoaihggaa
