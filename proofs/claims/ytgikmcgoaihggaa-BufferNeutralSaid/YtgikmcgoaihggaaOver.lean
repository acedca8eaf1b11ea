/- The reference's Over. -/
import Derived.Test.YtgikmcgoaihggaaPutL
import Derived.Test.YtgikmcgoaihggaaVDec
import Derived.Test.YtgikmcgoaihggaaTail
import Derived.Deep.RegionHeld3
import Derived.Deep.QuietTactic
import Derived.BigQuiet
set_option linter.unusedVariables false
set_option linter.unusedSimpArgs false
namespace Go.Proofs.Ytgikmcgoaihggaa
open Go.RowKit Go.Sort
attribute [local go_sem ↓] Go.wp_at_zero Go.wp_at_succ

theorem r8product_any (a b : Int) (w : World) (ha : 0 ≤ a ∧ a ≤ 255) (hb : 0 ≤ b ∧ b ≤ 255) :
    Calls Try.prog 82 #[.int .u8 a, .int .u8 b] w fun e w' => e = .returned (.int .u8 (prod8 a b)) ∧ w = w' := by
  obtain ⟨h1, h2⟩ := prod8_rng ha hb
  obtain ⟨a0, a1⟩ := ha
  obtain ⟨b0, b1⟩ := hb
  go_enter Try.func82, Try.ntmps82
  go_wp2
  go_ret
  exact ⟨rfl, rfl⟩
theorem quiet_mineB {P : Program} {f : FuncId} {args : Array Value} {w : World} {n : Nat} {v : Value}
    (h : Calls P f args (w.drewN n) fun e w' => e = .returned v ∧ w.drewN n = w') : Calls P f args (w.drewN n) fun e w' => e = .returned v ∧ ∃ k, w' = w.drewN k :=
  h.mono fun e w' ⟨h1, h2⟩ => ⟨h1, n, h2.symm⟩
set_option maxHeartbeats 1000000 in
theorem r8scale_any (r g b a k : Int) (w : World) (hr : 0 ≤ r ∧ r ≤ 255) (hg : 0 ≤ g ∧ g ≤ 255) (hb : 0 ≤ b ∧ b ≤ 255) (ha : 0 ≤ a ∧ a ≤ 255) (hk : 0 ≤ k ∧ k ≤ 255) :
    Calls Try.prog 76 #[px r g b a, .int .u8 k] w fun e w' => e = .returned (px (prod8 (min r a) k) (prod8 (min g a) k) (prod8 (min b a) k) (prod8 a k)) ∧ Below w.heap.size w w' := by
  have p1 : 0 ≤ min r a ∧ min r a ≤ 255 := by omega
  have p2 : 0 ≤ min g a ∧ min g a ≤ 255 := by omega
  have p3 : 0 ≤ min b a ∧ min b a ≤ 255 := by omega
  generalize hR : min r a = R at *
  generalize hG : min g a = G at *
  generalize hBm : min b a = B at *
  have hC : ∀ W, Calls Try.prog 42 #[px r g b a] W fun e w' => e = .returned (px R G B a) ∧ Below W.heap.size W w' := fun W => by
    have := r8clamp_any r g b a W
    rw [hR, hG, hBm] at this
    exact this
  clear hR hG hBm
  have HC := Lib.hid hC
  clear hC hr hg hb
  go_enter Try.func76, Try.ntmps76
  go_wp2_with fail
  refine (HC.out _).mono ?_; rintro e w1 ⟨rfl, hb_w1⟩
  have hB1 : Below w.heap.size w w1 := bon (by (with_reducible repeat (first | assumption | exact Below.refl _ _ | refine Below.setCell ?_ (by first | omega | (simp; done) | (simp; omega)) _ | refine Below.drew ?_ | refine bdrewN ?_ _ | refine Below.alloc ?_ (by first | omega | (simp; done) | (simp; omega)) _))) (by simp; omega) hb_w1
  have K1 : Blk w1 (w.heap.size) 43 #[.int .u8 r, .int .u8 g, .int .u8 b, .int .u8 a] := Blk.below hb_w1 (by (with_reducible repeat (first | assumption | (refine Blk.newAt ?_; first | rfl | (simp; done)) | refine Blk.alloc ?_ _ | refine Blk.drew ?_ | refine Blk.other ?_ (by simp) _)))
  have K2 : Blk w1 (w.heap.size + 1) 43 #[.int .u8 0, .int .u8 0, .int .u8 0, .int .u8 0] := Blk.below hb_w1 (by (with_reducible repeat (first | assumption | (refine Blk.newAt ?_; first | rfl | (simp; done)) | refine Blk.alloc ?_ _ | refine Blk.drew ?_ | refine Blk.other ?_ (by simp) _)))
  obtain ⟨⟨c0, f0⟩, ⟨c1, f1⟩, ⟨c2, f2⟩, c3, f3⟩ := K1.c4
  obtain ⟨⟨d0, g0⟩, ⟨d1, g1⟩, ⟨d2, g2⟩, d3, g3⟩ := K2.c4
  have hz1 := K1.lt
  have hz2 := K2.lt
  clear hb_w1
  have HK2 := Lib.hid K2
  clear K1 K2
  go_wp2_with fail
  have e255 : (0:Int) ≤ 255 - 255 := by decide
  (refine wp_region_quiet_tail_drew 17 (by kernel_rfl) (by kernel_rfl) ?_; simp only [List.take_succ_cons, List.take_zero, List.drop_succ_cons, List.drop_zero]; (repeat (go_big_quiet_step ((go_at_call 82; exact quiet_mineB (r8product_any _ _ _ (by omega) (by omega)))))); refine wpQuiet_nil ?_; intro _ hw'; obtain ⟨nq, hw''⟩ := hw'; subst hw'')
  go_wp2_with fail
  refine bodyPost_ret (v := px (prod8 R k) (prod8 G k) (prod8 B k) (prod8 a k)) (by simp [results, Try.results76, go_sem, d0, d1, d2, d3]) rfl ⟨rfl, ?_⟩
  have := bdrewN hB1 nq
  (with_reducible repeat (first | assumption | exact Below.refl _ _ | refine Below.setCell ?_ (by first | omega | (simp; done) | (simp; omega)) _ | refine Below.drew ?_ | refine bdrewN ?_ _ | refine Below.alloc ?_ (by first | omega | (simp; done) | (simp; omega)) _))
set_option maxHeartbeats 1000000 in
theorem r8over_any (sr sg sb sa r g b a : Int) (w : World) (hsr : 0 ≤ sr ∧ sr ≤ 255) (hsg : 0 ≤ sg ∧ sg ≤ 255) (hsb : 0 ≤ sb ∧ sb ≤ 255) (hsa : 0 ≤ sa ∧ sa ≤ 255)
    (hr : 0 ≤ r ∧ r ≤ 255) (hg : 0 ≤ g ∧ g ≤ 255) (hb : 0 ≤ b ∧ b ≤ 255) (ha : 0 ≤ a ∧ a ≤ 255) :
    Calls Try.prog 71 #[px sr sg sb sa, px r g b a] w fun e w' => e = .returned (px (min sr sa + prod8 (min r a) (255 - sa)) (min sg sa + prod8 (min g a) (255 - sa)) (min sb sa + prod8 (min b a) (255 - sa)) (sa + prod8 a (255 - sa))) ∧ Below w.heap.size w w' := by
  have p1 := prod8_le (a := min r a) (b := 255 - sa) (by omega) (by omega)
  have p2 := prod8_le (a := min g a) (b := 255 - sa) (by omega) (by omega)
  have p3 := prod8_le (a := min b a) (b := 255 - sa) (by omega) (by omega)
  have p4 := prod8_le (a := a) (b := 255 - sa) (by omega) (by omega)
  have hz3 : w.heap.size < w.heap.size + 1 + 1 + 1 := by omega
  go_enter Try.func71, Try.ntmps71
  go_wp2_with (first
    | ((go_at_call 42; refine (r8clamp_any _ _ _ _ _).mono ?_; rintro e w1 ⟨rfl, hb_w1⟩; obtain ⟨hc_w1, hf_w1⟩ := bcell hb_w1; have hz_w1 := hb_w1.size; try simp at hz_w1); have hB1 : Below w.heap.size w w1 := bon (by (with_reducible repeat (first | assumption | exact Below.refl _ _ | refine Below.setCell ?_ (by first | omega | (simp; done) | (simp; omega)) _ | refine Below.drew ?_ | refine bdrewN ?_ _ | refine Below.alloc ?_ (by first | omega | (simp; done) | (simp; omega)) _))) (by simp; omega) hb_w1; have q0 : w.heap.size < w1.heap.size := (by omega); have q1 : w.heap.size + 1 < w1.heap.size := (by omega); have q2 : w.heap.size + 1 + 1 < w1.heap.size := (by omega); have cs_0 : w1.cell? ⟨w.heap.size, 0, none⟩ = some (.int .u8 sr) := (by rw [hc_w1 _ _ (by first | omega | (simp; done) | (simp; omega))]; go_simp); have cs_1 : w1.cell? ⟨w.heap.size, 1, none⟩ = some (.int .u8 sg) := (by rw [hc_w1 _ _ (by first | omega | (simp; done) | (simp; omega))]; go_simp); have cs_2 : w1.cell? ⟨w.heap.size, 2, none⟩ = some (.int .u8 sb) := (by rw [hc_w1 _ _ (by first | omega | (simp; done) | (simp; omega))]; go_simp); have cs_3 : w1.cell? ⟨w.heap.size, 3, none⟩ = some (.int .u8 sa) := (by rw [hc_w1 _ _ (by first | omega | (simp; done) | (simp; omega))]; go_simp); have fs_0 : w1.frozen? ⟨w.heap.size, 0, none⟩ = false := (by rw [hf_w1 _ _ (by first | omega | (simp; done) | (simp; omega))]; go_simp); have fs_1 : w1.frozen? ⟨w.heap.size, 1, none⟩ = false := (by rw [hf_w1 _ _ (by first | omega | (simp; done) | (simp; omega))]; go_simp); have fs_2 : w1.frozen? ⟨w.heap.size, 2, none⟩ = false := (by rw [hf_w1 _ _ (by first | omega | (simp; done) | (simp; omega))]; go_simp); have fs_3 : w1.frozen? ⟨w.heap.size, 3, none⟩ = false := (by rw [hf_w1 _ _ (by first | omega | (simp; done) | (simp; omega))]; go_simp); have cd_0 : w1.cell? ⟨(w.heap.size+1), 0, none⟩ = some (.int .u8 r) := (by rw [hc_w1 _ _ (by first | omega | (simp; done) | (simp; omega))]; go_simp); have cd_1 : w1.cell? ⟨(w.heap.size+1), 1, none⟩ = some (.int .u8 g) := (by rw [hc_w1 _ _ (by first | omega | (simp; done) | (simp; omega))]; go_simp); have cd_2 : w1.cell? ⟨(w.heap.size+1), 2, none⟩ = some (.int .u8 b) := (by rw [hc_w1 _ _ (by first | omega | (simp; done) | (simp; omega))]; go_simp); have cd_3 : w1.cell? ⟨(w.heap.size+1), 3, none⟩ = some (.int .u8 a) := (by rw [hc_w1 _ _ (by first | omega | (simp; done) | (simp; omega))]; go_simp); have fd_0 : w1.frozen? ⟨(w.heap.size+1), 0, none⟩ = false := (by rw [hf_w1 _ _ (by first | omega | (simp; done) | (simp; omega))]; go_simp); have fd_1 : w1.frozen? ⟨(w.heap.size+1), 1, none⟩ = false := (by rw [hf_w1 _ _ (by first | omega | (simp; done) | (simp; omega))]; go_simp); have fd_2 : w1.frozen? ⟨(w.heap.size+1), 2, none⟩ = false := (by rw [hf_w1 _ _ (by first | omega | (simp; done) | (simp; omega))]; go_simp); have fd_3 : w1.frozen? ⟨(w.heap.size+1), 3, none⟩ = false := (by rw [hf_w1 _ _ (by first | omega | (simp; done) | (simp; omega))]; go_simp); have co_0 : w1.cell? ⟨(w.heap.size+1+1), 0, none⟩ = some (.int .u8 0) := (by rw [hc_w1 _ _ (by first | omega | (simp; done) | (simp; omega))]; go_simp); have co_1 : w1.cell? ⟨(w.heap.size+1+1), 1, none⟩ = some (.int .u8 0) := (by rw [hc_w1 _ _ (by first | omega | (simp; done) | (simp; omega))]; go_simp); have co_2 : w1.cell? ⟨(w.heap.size+1+1), 2, none⟩ = some (.int .u8 0) := (by rw [hc_w1 _ _ (by first | omega | (simp; done) | (simp; omega))]; go_simp); have co_3 : w1.cell? ⟨(w.heap.size+1+1), 3, none⟩ = some (.int .u8 0) := (by rw [hc_w1 _ _ (by first | omega | (simp; done) | (simp; omega))]; go_simp); have fo_0 : w1.frozen? ⟨(w.heap.size+1+1), 0, none⟩ = false := (by rw [hf_w1 _ _ (by first | omega | (simp; done) | (simp; omega))]; go_simp); have fo_1 : w1.frozen? ⟨(w.heap.size+1+1), 1, none⟩ = false := (by rw [hf_w1 _ _ (by first | omega | (simp; done) | (simp; omega))]; go_simp); have fo_2 : w1.frozen? ⟨(w.heap.size+1+1), 2, none⟩ = false := (by rw [hf_w1 _ _ (by first | omega | (simp; done) | (simp; omega))]; go_simp); have fo_3 : w1.frozen? ⟨(w.heap.size+1+1), 3, none⟩ = false := (by rw [hf_w1 _ _ (by first | omega | (simp; done) | (simp; omega))]; go_simp); clear hc_w1 hf_w1 hb_w1)
    | (go_at_call 76; refine (r8scale_any _ _ _ _ _ _ hr hg hb ha (by omega)).mono ?_; rintro e w2 ⟨rfl, hb_w2⟩; obtain ⟨hc_w2, hf_w2⟩ := bcell hb_w2; have hz2 := hb_w2.size; simp at hz2; have hB2 : Below w.heap.size w w2 := bon (by (with_reducible repeat (first | assumption | exact Below.refl _ _ | refine Below.setCell ?_ (by first | omega | (simp; done) | (simp; omega)) _ | refine Below.drew ?_ | refine bdrewN ?_ _ | refine Below.alloc ?_ (by first | omega | (simp; done) | (simp; omega)) _))) (by simp; omega) hb_w2; have cs2_0 : w2.cell? ⟨w.heap.size, 0, none⟩ = some (.int .u8 (min sr sa)) := (by rw [hc_w2 _ _ (by first | omega | (simp; done) | (simp; omega))]; go_simp); have cs2_1 : w2.cell? ⟨w.heap.size, 1, none⟩ = some (.int .u8 (min sg sa)) := (by rw [hc_w2 _ _ (by first | omega | (simp; done) | (simp; omega))]; go_simp); have cs2_2 : w2.cell? ⟨w.heap.size, 2, none⟩ = some (.int .u8 (min sb sa)) := (by rw [hc_w2 _ _ (by first | omega | (simp; done) | (simp; omega))]; go_simp); have cs2_3 : w2.cell? ⟨w.heap.size, 3, none⟩ = some (.int .u8 sa) := (by rw [hc_w2 _ _ (by first | omega | (simp; done) | (simp; omega))]; go_simp); have cd2_0 : w2.cell? ⟨(w.heap.size+1), 0, none⟩ = some (.int .u8 r) := (by rw [hc_w2 _ _ (by first | omega | (simp; done) | (simp; omega))]; go_simp); have cd2_1 : w2.cell? ⟨(w.heap.size+1), 1, none⟩ = some (.int .u8 g) := (by rw [hc_w2 _ _ (by first | omega | (simp; done) | (simp; omega))]; go_simp); have cd2_2 : w2.cell? ⟨(w.heap.size+1), 2, none⟩ = some (.int .u8 b) := (by rw [hc_w2 _ _ (by first | omega | (simp; done) | (simp; omega))]; go_simp); have cd2_3 : w2.cell? ⟨(w.heap.size+1), 3, none⟩ = some (.int .u8 a) := (by rw [hc_w2 _ _ (by first | omega | (simp; done) | (simp; omega))]; go_simp); have fd2_0 : w2.frozen? ⟨(w.heap.size+1), 0, none⟩ = false := (by rw [hf_w2 _ _ (by first | omega | (simp; done) | (simp; omega))]; go_simp); have fd2_1 : w2.frozen? ⟨(w.heap.size+1), 1, none⟩ = false := (by rw [hf_w2 _ _ (by first | omega | (simp; done) | (simp; omega))]; go_simp); have fd2_2 : w2.frozen? ⟨(w.heap.size+1), 2, none⟩ = false := (by rw [hf_w2 _ _ (by first | omega | (simp; done) | (simp; omega))]; go_simp); have fd2_3 : w2.frozen? ⟨(w.heap.size+1), 3, none⟩ = false := (by rw [hf_w2 _ _ (by first | omega | (simp; done) | (simp; omega))]; go_simp); have co2_0 : w2.cell? ⟨(w.heap.size+1+1), 0, none⟩ = some (.int .u8 0) := (by rw [hc_w2 _ _ (by first | omega | (simp; done) | (simp; omega))]; go_simp); have co2_1 : w2.cell? ⟨(w.heap.size+1+1), 1, none⟩ = some (.int .u8 0) := (by rw [hc_w2 _ _ (by first | omega | (simp; done) | (simp; omega))]; go_simp); have co2_2 : w2.cell? ⟨(w.heap.size+1+1), 2, none⟩ = some (.int .u8 0) := (by rw [hc_w2 _ _ (by first | omega | (simp; done) | (simp; omega))]; go_simp); have co2_3 : w2.cell? ⟨(w.heap.size+1+1), 3, none⟩ = some (.int .u8 0) := (by rw [hc_w2 _ _ (by first | omega | (simp; done) | (simp; omega))]; go_simp); have fo2_0 : w2.frozen? ⟨(w.heap.size+1+1), 0, none⟩ = false := (by rw [hf_w2 _ _ (by first | omega | (simp; done) | (simp; omega))]; go_simp); have fo2_1 : w2.frozen? ⟨(w.heap.size+1+1), 1, none⟩ = false := (by rw [hf_w2 _ _ (by first | omega | (simp; done) | (simp; omega))]; go_simp); have fo2_2 : w2.frozen? ⟨(w.heap.size+1+1), 2, none⟩ = false := (by rw [hf_w2 _ _ (by first | omega | (simp; done) | (simp; omega))]; go_simp); have fo2_3 : w2.frozen? ⟨(w.heap.size+1+1), 3, none⟩ = false := (by rw [hf_w2 _ _ (by first | omega | (simp; done) | (simp; omega))]; go_simp); clear hc_w2 hf_w2 hb_w2))
  refine bodyPost_ret (v := px (min sr sa + prod8 (min r a) (255 - sa)) (min sg sa + prod8 (min g a) (255 - sa)) (min sb sa + prod8 (min b a) (255 - sa)) (sa + prod8 a (255 - sa))) (by simp [results, Try.results71, go_sem, co2_0, co2_1, co2_2, co2_3]) rfl ⟨rfl, ?_⟩
  (with_reducible repeat (first | assumption | exact Below.refl _ _ | refine Below.setCell ?_ (by first | omega | (simp; done) | (simp; omega)) _ | refine Below.drew ?_ | refine bdrewN ?_ _ | refine Below.alloc ?_ (by first | omega | (simp; done) | (simp; omega)) _))
end Go.Proofs.Ytgikmcgoaihggaa
