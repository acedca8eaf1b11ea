/- Contracts of package pixel: what Clamp, Scale, Over and Premultiply return, in any memory. -/
import Derived.Test.YtgikmcgoaihggaaBase
import Derived.Deep.RegionHeld3
import Derived.Deep.DrawnRows
import Derived.WalkLawsBesides
set_option linter.unusedVariables false
set_option linter.unusedSimpArgs false
namespace Go.Proofs.Ytgikmcgoaihggaa
open Go.RowKit
attribute [local go_sem ↓] Go.wp_at_zero Go.wp_at_succ

abbrev px (r g b a : Int) : Value := .agg #[.int .u8 r, .int .u8 g, .int .u8 b, .int .u8 a]
/-- What product computes. -/
def prod8 (a b : Int) : Int := (a * b + 127) / 255

theorem prod8_rng {a b : Int} (ha : 0 ≤ a ∧ a ≤ 255) (hb : 0 ≤ b ∧ b ≤ 255) : 0 ≤ a * b ∧ a * b ≤ 65025 := by
  obtain ⟨a, rfl⟩ := Int.eq_ofNat_of_zero_le ha.1
  obtain ⟨b, rfl⟩ := Int.eq_ofNat_of_zero_le hb.1
  have h := Nat.mul_le_mul (show a ≤ 255 by omega) (show b ≤ 255 by omega)
  have e : ((a * b : Nat) : Int) = (a : Int) * (b : Int) := by simp
  omega
theorem prod8_le {a b : Int} (ha : 0 ≤ a ∧ a ≤ 255) (hb : 0 ≤ b ∧ b ≤ 255) : 0 ≤ prod8 a b ∧ prod8 a b ≤ b := by
  have e : a * b ≤ 255 * b := Int.mul_le_mul_of_nonneg_right ha.2 hb.1
  have := prod8_rng ha hb
  unfold prod8; omega

theorem clamp_any (r g b a : Int) (w : World) :
    Calls Try.prog 40 #[px r g b a] w fun e w' => e = .returned (px (min r a) (min g a) (min b a) a) ∧ Below w.heap.size w w' := by
  go_enter Try.func40, Try.ntmps40
  go_wp2
  all_goals
    refine bodyPost_ret (v := px (min r a) (min g a) (min b a) a) (by simp [results, Try.results40, go_sem, Int.min_def]; omega) rfl ⟨rfl, ?_⟩
    (with_reducible repeat (first | assumption | exact Below.refl _ _ | refine Below.setCell ?_ (by first | omega | (simp; done) | (simp; omega)) _ | refine Below.drew ?_ | refine bdrewN ?_ _ | refine Below.alloc ?_ (by first | omega | (simp; done) | (simp; omega)) _))

theorem product_any (a b : Int) (w : World) (ha : 0 ≤ a ∧ a ≤ 255) (hb : 0 ≤ b ∧ b ≤ 255) :
    Calls Try.prog 79 #[.int .u8 a, .int .u8 b] w fun e w' => e = .returned (.int .u8 (prod8 a b)) ∧ w = w' := by
  obtain ⟨h1, h2⟩ := prod8_rng ha hb
  obtain ⟨a0, a1⟩ := ha
  obtain ⟨b0, b1⟩ := hb
  go_enter Try.func79, Try.ntmps79
  go_wp2
  go_ret
  exact ⟨rfl, rfl⟩

theorem scale1_any (c k : Int) (bk : Nat) (w : World) (hc : 0 ≤ c ∧ c ≤ 255) (hk : 0 ≤ k ∧ k ≤ 255) (hcell : w.cell? ⟨bk, 0, none⟩ = some (.int .u8 k)) :
    Calls Try.prog 78 #[.int .u8 c, .pointer (some ⟨bk, 0, none⟩)] w fun e w' => e = .returned (.int .u8 (prod8 c k)) ∧ w = w' := by
  go_enter Try.func78, Try.ntmps78
  go_wp2_with (go_at_call 79; refine (product_any _ _ _ hc hk).mono ?_; rintro e w' ⟨rfl, rfl⟩)
  go_ret
  exact ⟨rfl, rfl⟩

set_option maxHeartbeats 400000 in
theorem each_scale (r g b a k : Int) (bk : Nat) (w : World) (hr : 0 ≤ r ∧ r ≤ 255) (hg : 0 ≤ g ∧ g ≤ 255) (hb : 0 ≤ b ∧ b ≤ 255) (ha : 0 ≤ a ∧ a ≤ 255) (hk : 0 ≤ k ∧ k ≤ 255) (hcell : w.cell? ⟨bk, 0, none⟩ = some (.int .u8 k)) :
    Calls Try.prog 77 #[px r g b a, .func (Fn.func 78) #[] #[.pointer (some ⟨bk, 0, none⟩)]] w fun e w' => e = .returned (px (prod8 r k) (prod8 g k) (prod8 b k) (prod8 a k)) ∧ Below w.heap.size w w' := by
  have hlt : bk < w.heap.size := World.block_lt_of_cell? w _ hcell
  have hcell2 : ∀ o1 o2, (((w.alloc o1).alloc o2).cell? ⟨bk, 0, none⟩ = some (.int .u8 k)) := fun o1 o2 => (((Below.refl w.heap.size w).alloc (Nat.le_refl _) o1).alloc (by simp) o2).cell (p := ⟨bk, 0, none⟩) hlt |>.trans hcell
  go_enter Try.func77, Try.ntmps77
  go_wp2_with fail
  go_region_held3 (fun w' => w'.cell? ⟨w.heap.size, 0, none⟩ = some (.int .u8 r) ∧ w'.cell? ⟨w.heap.size, 1, none⟩ = some (.int .u8 g) ∧ w'.cell? ⟨w.heap.size, 2, none⟩ = some (.int .u8 b) ∧ w'.cell? ⟨w.heap.size, 3, none⟩ = some (.int .u8 a)) (go_keep)
    (first | (go_at_call 78; refine (scale1_any _ _ _ _ ?_ hk ?_).mono ?_; assumption; exact hcell2 _ _; rintro e w' ⟨rfl, rfl⟩))
  go_wp2
  refine bodyPost_ret (v := px (prod8 r k) (prod8 g k) (prod8 b k) (prod8 a k)) (by simp [results, Try.results77, go_sem]) rfl ⟨rfl, ?_⟩
  (with_reducible repeat (first | assumption | exact Below.refl _ _ | refine Below.setCell ?_ (by first | omega | (simp; done) | (simp; omega)) _ | refine Below.drew ?_ | refine bdrewN ?_ _ | refine Below.alloc ?_ (by first | omega | (simp; done) | (simp; omega)) _))

set_option maxHeartbeats 400000 in
theorem scale_any (r g b a k : Int) (w : World) (hr : 0 ≤ r ∧ r ≤ 255) (hg : 0 ≤ g ∧ g ≤ 255) (hb : 0 ≤ b ∧ b ≤ 255) (ha : 0 ≤ a ∧ a ≤ 255) (hk : 0 ≤ k ∧ k ≤ 255) :
    Calls Try.prog 72 #[px r g b a, .int .u8 k] w fun e w' => e = .returned (px (prod8 (min r a) k) (prod8 (min g a) k) (prod8 (min b a) k) (prod8 a k)) ∧ Below w.heap.size w w' := by
  go_enter Try.func72, Try.ntmps72
  go_wp2_with (first
    | ((go_at_call 40; refine (clamp_any _ _ _ _ _).mono ?_; rintro e w1 ⟨rfl, hb_w1⟩; obtain ⟨hc_w1, hf_w1⟩ := bcell hb_w1; have hz_w1 := hb_w1.size; try simp at hz_w1); have hB1 : Below w.heap.size w w1 := bon (by (with_reducible repeat (first | assumption | exact Below.refl _ _ | refine Below.setCell ?_ (by first | omega | (simp; done) | (simp; omega)) _ | refine Below.drew ?_ | refine bdrewN ?_ _ | refine Below.alloc ?_ (by first | omega | (simp; done) | (simp; omega)) _))) (by simp; omega) hb_w1; have q0 : w.heap.size < w1.heap.size := (by omega); have q1 : w.heap.size + 1 < w1.heap.size := (by omega); have q2 : w.heap.size + 1 + 1 < w1.heap.size := (by omega))
    | (go_at_call 77; refine (each_scale _ _ _ _ k _ _ (by omega) (by omega) (by omega) ha hk ?_).mono ?_; (simp [hc_w1]; go_simp); rintro e w2 ⟨rfl, hb2⟩; obtain ⟨hc2, hf2⟩ := bcell hb2; have hz2 := hb2.size; have hB2 := bon hB1 (by omega) hb2))
  refine bodyPost_ret (v := px (prod8 (min r a) k) (prod8 (min g a) k) (prod8 (min b a) k) (prod8 a k)) (by simp [results, Try.results72, go_sem, hc2, hc_w1, q2]) rfl ⟨rfl, ?_⟩
  (with_reducible repeat (first | assumption | exact Below.refl _ _ | refine Below.setCell ?_ (by first | omega | (simp; done) | (simp; omega)) _ | refine Below.drew ?_ | refine bdrewN ?_ _ | refine Below.alloc ?_ (by first | omega | (simp; done) | (simp; omega)) _))

set_option maxHeartbeats 1000000 in
theorem over_any (sr sg sb sa r g b a : Int) (w : World) (hsr : 0 ≤ sr ∧ sr ≤ 255) (hsg : 0 ≤ sg ∧ sg ≤ 255) (hsb : 0 ≤ sb ∧ sb ≤ 255) (hsa : 0 ≤ sa ∧ sa ≤ 255)
    (hr : 0 ≤ r ∧ r ≤ 255) (hg : 0 ≤ g ∧ g ≤ 255) (hb : 0 ≤ b ∧ b ≤ 255) (ha : 0 ≤ a ∧ a ≤ 255) :
    Calls Try.prog 63 #[px sr sg sb sa, px r g b a] w fun e w' => e = .returned (px (min sr sa + prod8 (min r a) (255 - sa)) (min sg sa + prod8 (min g a) (255 - sa)) (min sb sa + prod8 (min b a) (255 - sa)) (sa + prod8 a (255 - sa))) ∧ Below w.heap.size w w' := by
  have p1 := prod8_le (a := min r a) (b := 255 - sa) (by omega) (by omega)
  have p2 := prod8_le (a := min g a) (b := 255 - sa) (by omega) (by omega)
  have p3 := prod8_le (a := min b a) (b := 255 - sa) (by omega) (by omega)
  have p4 := prod8_le (a := a) (b := 255 - sa) (by omega) (by omega)
  go_enter Try.func63, Try.ntmps63
  go_wp2_with (first
    | ((go_at_call 40; refine (clamp_any _ _ _ _ _).mono ?_; rintro e w1 ⟨rfl, hb_w1⟩; obtain ⟨hc_w1, hf_w1⟩ := bcell hb_w1; have hz_w1 := hb_w1.size; try simp at hz_w1); have hB1 : Below w.heap.size w w1 := bon (by (with_reducible repeat (first | assumption | exact Below.refl _ _ | refine Below.setCell ?_ (by first | omega | (simp; done) | (simp; omega)) _ | refine Below.drew ?_ | refine bdrewN ?_ _ | refine Below.alloc ?_ (by first | omega | (simp; done) | (simp; omega)) _))) (by simp; omega) hb_w1; have q0 : w.heap.size < w1.heap.size := (by omega); have q1 : w.heap.size + 1 < w1.heap.size := (by omega); have q2 : w.heap.size + 1 + 1 < w1.heap.size := (by omega); have cs_0 : w1.cell? ⟨w.heap.size, 0, none⟩ = some (.int .u8 sr) := (by rw [hc_w1 _ _ (by first | omega | (simp; done) | (simp; omega))]; go_simp); have cs_1 : w1.cell? ⟨w.heap.size, 1, none⟩ = some (.int .u8 sg) := (by rw [hc_w1 _ _ (by first | omega | (simp; done) | (simp; omega))]; go_simp); have cs_2 : w1.cell? ⟨w.heap.size, 2, none⟩ = some (.int .u8 sb) := (by rw [hc_w1 _ _ (by first | omega | (simp; done) | (simp; omega))]; go_simp); have cs_3 : w1.cell? ⟨w.heap.size, 3, none⟩ = some (.int .u8 sa) := (by rw [hc_w1 _ _ (by first | omega | (simp; done) | (simp; omega))]; go_simp); have fs_0 : w1.frozen? ⟨w.heap.size, 0, none⟩ = false := (by rw [hf_w1 _ _ (by first | omega | (simp; done) | (simp; omega))]; go_simp); have fs_1 : w1.frozen? ⟨w.heap.size, 1, none⟩ = false := (by rw [hf_w1 _ _ (by first | omega | (simp; done) | (simp; omega))]; go_simp); have fs_2 : w1.frozen? ⟨w.heap.size, 2, none⟩ = false := (by rw [hf_w1 _ _ (by first | omega | (simp; done) | (simp; omega))]; go_simp); have fs_3 : w1.frozen? ⟨w.heap.size, 3, none⟩ = false := (by rw [hf_w1 _ _ (by first | omega | (simp; done) | (simp; omega))]; go_simp); have cd_0 : w1.cell? ⟨(w.heap.size+1), 0, none⟩ = some (.int .u8 r) := (by rw [hc_w1 _ _ (by first | omega | (simp; done) | (simp; omega))]; go_simp); have cd_1 : w1.cell? ⟨(w.heap.size+1), 1, none⟩ = some (.int .u8 g) := (by rw [hc_w1 _ _ (by first | omega | (simp; done) | (simp; omega))]; go_simp); have cd_2 : w1.cell? ⟨(w.heap.size+1), 2, none⟩ = some (.int .u8 b) := (by rw [hc_w1 _ _ (by first | omega | (simp; done) | (simp; omega))]; go_simp); have cd_3 : w1.cell? ⟨(w.heap.size+1), 3, none⟩ = some (.int .u8 a) := (by rw [hc_w1 _ _ (by first | omega | (simp; done) | (simp; omega))]; go_simp); have fd_0 : w1.frozen? ⟨(w.heap.size+1), 0, none⟩ = false := (by rw [hf_w1 _ _ (by first | omega | (simp; done) | (simp; omega))]; go_simp); have fd_1 : w1.frozen? ⟨(w.heap.size+1), 1, none⟩ = false := (by rw [hf_w1 _ _ (by first | omega | (simp; done) | (simp; omega))]; go_simp); have fd_2 : w1.frozen? ⟨(w.heap.size+1), 2, none⟩ = false := (by rw [hf_w1 _ _ (by first | omega | (simp; done) | (simp; omega))]; go_simp); have fd_3 : w1.frozen? ⟨(w.heap.size+1), 3, none⟩ = false := (by rw [hf_w1 _ _ (by first | omega | (simp; done) | (simp; omega))]; go_simp); have co_0 : w1.cell? ⟨(w.heap.size+1+1), 0, none⟩ = some (.int .u8 0) := (by rw [hc_w1 _ _ (by first | omega | (simp; done) | (simp; omega))]; go_simp); have co_1 : w1.cell? ⟨(w.heap.size+1+1), 1, none⟩ = some (.int .u8 0) := (by rw [hc_w1 _ _ (by first | omega | (simp; done) | (simp; omega))]; go_simp); have co_2 : w1.cell? ⟨(w.heap.size+1+1), 2, none⟩ = some (.int .u8 0) := (by rw [hc_w1 _ _ (by first | omega | (simp; done) | (simp; omega))]; go_simp); have co_3 : w1.cell? ⟨(w.heap.size+1+1), 3, none⟩ = some (.int .u8 0) := (by rw [hc_w1 _ _ (by first | omega | (simp; done) | (simp; omega))]; go_simp); have fo_0 : w1.frozen? ⟨(w.heap.size+1+1), 0, none⟩ = false := (by rw [hf_w1 _ _ (by first | omega | (simp; done) | (simp; omega))]; go_simp); have fo_1 : w1.frozen? ⟨(w.heap.size+1+1), 1, none⟩ = false := (by rw [hf_w1 _ _ (by first | omega | (simp; done) | (simp; omega))]; go_simp); have fo_2 : w1.frozen? ⟨(w.heap.size+1+1), 2, none⟩ = false := (by rw [hf_w1 _ _ (by first | omega | (simp; done) | (simp; omega))]; go_simp); have fo_3 : w1.frozen? ⟨(w.heap.size+1+1), 3, none⟩ = false := (by rw [hf_w1 _ _ (by first | omega | (simp; done) | (simp; omega))]; go_simp); clear hc_w1 hf_w1 hb_w1)
    | (go_at_call 72; refine (scale_any _ _ _ _ _ _ hr hg hb ha (by omega)).mono ?_; rintro e w2 ⟨rfl, hb_w2⟩; obtain ⟨hc_w2, hf_w2⟩ := bcell hb_w2; have hz2 := hb_w2.size; simp at hz2; have hB2 : Below w.heap.size w w2 := bon (by (with_reducible repeat (first | assumption | exact Below.refl _ _ | refine Below.setCell ?_ (by first | omega | (simp; done) | (simp; omega)) _ | refine Below.drew ?_ | refine bdrewN ?_ _ | refine Below.alloc ?_ (by first | omega | (simp; done) | (simp; omega)) _))) (by simp; omega) hb_w2; have cs2_0 : w2.cell? ⟨w.heap.size, 0, none⟩ = some (.int .u8 (min sr sa)) := (by rw [hc_w2 _ _ (by first | omega | (simp; done) | (simp; omega))]; go_simp); have cs2_1 : w2.cell? ⟨w.heap.size, 1, none⟩ = some (.int .u8 (min sg sa)) := (by rw [hc_w2 _ _ (by first | omega | (simp; done) | (simp; omega))]; go_simp); have cs2_2 : w2.cell? ⟨w.heap.size, 2, none⟩ = some (.int .u8 (min sb sa)) := (by rw [hc_w2 _ _ (by first | omega | (simp; done) | (simp; omega))]; go_simp); have cs2_3 : w2.cell? ⟨w.heap.size, 3, none⟩ = some (.int .u8 sa) := (by rw [hc_w2 _ _ (by first | omega | (simp; done) | (simp; omega))]; go_simp); have cd2_0 : w2.cell? ⟨(w.heap.size+1), 0, none⟩ = some (.int .u8 r) := (by rw [hc_w2 _ _ (by first | omega | (simp; done) | (simp; omega))]; go_simp); have cd2_1 : w2.cell? ⟨(w.heap.size+1), 1, none⟩ = some (.int .u8 g) := (by rw [hc_w2 _ _ (by first | omega | (simp; done) | (simp; omega))]; go_simp); have cd2_2 : w2.cell? ⟨(w.heap.size+1), 2, none⟩ = some (.int .u8 b) := (by rw [hc_w2 _ _ (by first | omega | (simp; done) | (simp; omega))]; go_simp); have cd2_3 : w2.cell? ⟨(w.heap.size+1), 3, none⟩ = some (.int .u8 a) := (by rw [hc_w2 _ _ (by first | omega | (simp; done) | (simp; omega))]; go_simp); have fd2_0 : w2.frozen? ⟨(w.heap.size+1), 0, none⟩ = false := (by rw [hf_w2 _ _ (by first | omega | (simp; done) | (simp; omega))]; go_simp); have fd2_1 : w2.frozen? ⟨(w.heap.size+1), 1, none⟩ = false := (by rw [hf_w2 _ _ (by first | omega | (simp; done) | (simp; omega))]; go_simp); have fd2_2 : w2.frozen? ⟨(w.heap.size+1), 2, none⟩ = false := (by rw [hf_w2 _ _ (by first | omega | (simp; done) | (simp; omega))]; go_simp); have fd2_3 : w2.frozen? ⟨(w.heap.size+1), 3, none⟩ = false := (by rw [hf_w2 _ _ (by first | omega | (simp; done) | (simp; omega))]; go_simp); have co2_0 : w2.cell? ⟨(w.heap.size+1+1), 0, none⟩ = some (.int .u8 0) := (by rw [hc_w2 _ _ (by first | omega | (simp; done) | (simp; omega))]; go_simp); have co2_1 : w2.cell? ⟨(w.heap.size+1+1), 1, none⟩ = some (.int .u8 0) := (by rw [hc_w2 _ _ (by first | omega | (simp; done) | (simp; omega))]; go_simp); have co2_2 : w2.cell? ⟨(w.heap.size+1+1), 2, none⟩ = some (.int .u8 0) := (by rw [hc_w2 _ _ (by first | omega | (simp; done) | (simp; omega))]; go_simp); have co2_3 : w2.cell? ⟨(w.heap.size+1+1), 3, none⟩ = some (.int .u8 0) := (by rw [hc_w2 _ _ (by first | omega | (simp; done) | (simp; omega))]; go_simp); have fo2_0 : w2.frozen? ⟨(w.heap.size+1+1), 0, none⟩ = false := (by rw [hf_w2 _ _ (by first | omega | (simp; done) | (simp; omega))]; go_simp); have fo2_1 : w2.frozen? ⟨(w.heap.size+1+1), 1, none⟩ = false := (by rw [hf_w2 _ _ (by first | omega | (simp; done) | (simp; omega))]; go_simp); have fo2_2 : w2.frozen? ⟨(w.heap.size+1+1), 2, none⟩ = false := (by rw [hf_w2 _ _ (by first | omega | (simp; done) | (simp; omega))]; go_simp); have fo2_3 : w2.frozen? ⟨(w.heap.size+1+1), 3, none⟩ = false := (by rw [hf_w2 _ _ (by first | omega | (simp; done) | (simp; omega))]; go_simp); clear hc_w2 hf_w2 hb_w2))
  refine bodyPost_ret (v := px (min sr sa + prod8 (min r a) (255 - sa)) (min sg sa + prod8 (min g a) (255 - sa)) (min sb sa + prod8 (min b a) (255 - sa)) (sa + prod8 a (255 - sa))) (by simp [results, Try.results63, go_sem, co2_0, co2_1, co2_2, co2_3]) rfl ⟨rfl, ?_⟩
  (with_reducible repeat (first | assumption | exact Below.refl _ _ | refine Below.setCell ?_ (by first | omega | (simp; done) | (simp; omega)) _ | refine Below.drew ?_ | refine bdrewN ?_ _ | refine Below.alloc ?_ (by first | omega | (simp; done) | (simp; omega)) _))

end Go.Proofs.Ytgikmcgoaihggaa
