/- The chapter's examples of package pixel hold. -/
import Derived.Test.YtijfldgkmbhdoaaPix
import Derived.Deep.QuietTactic
import Derived.BigQuiet
set_option linter.unusedVariables false
set_option linter.unusedSimpArgs false
namespace Go.Proofs.Ytijfldgkmbhdoaa
open Go.RowKit
attribute [local go_sem ↓] Go.wp_at_zero Go.wp_at_succ

theorem near_any (a b : Int) (w : World) (ha : 0 ≤ a ∧ a ≤ 255) (hb : 0 ≤ b ∧ b ≤ 255) (h1 : a - b ≤ 2) (h2 : b - a ≤ 2) :
    Calls Try.prog 13 #[.int .u8 a, .int .u8 b] w fun e w' => e = .returned (.bool true) ∧ w = w' := by
  go_enter Try.func13, Try.ntmps13
  go_wp2
  go_ret
  exact ⟨rfl, rfl⟩

theorem clamp_eq (r g b a : Int) (w : World) (h1 : r ≤ a) (h2 : g ≤ a) (h3 : b ≤ a) :
    Calls Try.prog 11 #[px r g b a] w fun e w' => e = .returned (px r g b a) ∧ (w.alloc (.cells #[.int .u8 r, .int .u8 g, .int .u8 b, .int .u8 a] 23)).alloc (.cells #[.int .u8 r, .int .u8 g, .int .u8 b, .int .u8 a] 23) = w' := by
  go_enter Try.func11, Try.ntmps11
  go_wp2
  exact bodyPost_ret (v := px r g b a) (by simp [results, Try.results11, go_sem]) rfl ⟨rfl, rfl⟩

theorem average1_nat (i : Nat) (s : Int) (b1 b2 : Nat) (w : World) (hi : i < 4) (hs : 0 ≤ s ∧ s ≤ 100) (c1 : w.cell? ⟨b1, i, none⟩ = some (.int .i64 s)) (c2 : w.cell? ⟨b2, 0, none⟩ = some (.int .i64 2)) :
    Calls Try.prog 53 #[.int .i64 (i : Int), .pointer (some ⟨b1, 0, none⟩), .pointer (some ⟨b2, 0, none⟩)] w fun e w' => e = .returned (.int .u8 ((2 * s + 2) / 4)) ∧ ∃ n, w' = w.drewN n := by
  have hi2 : (0 : Int) ≤ (i : Int) := by omega
  have hi3 : (i : Int) < 4 := by omega
  go_enter Try.func53, Try.ntmps53
  go_wp2
  go_quiet (fail)
  go_wp2
  go_ret
  exact ⟨rfl, nq, rfl⟩
theorem average1_any (i : Int) (k : Nat) (s : Int) (b1 b2 : Nat) (w : World) (hk : i = k) (hi : k < 4) (hs : 0 ≤ s ∧ s ≤ 100) (c1 : w.cell? ⟨b1, k, none⟩ = some (.int .i64 s)) (c2 : w.cell? ⟨b2, 0, none⟩ = some (.int .i64 2)) :
    Calls Try.prog 53 #[.int .i64 i, .pointer (some ⟨b1, 0, none⟩), .pointer (some ⟨b2, 0, none⟩)] w fun e w' => e = .returned (.int .u8 ((2 * s + 2) / 4)) ∧ ∃ n, w' = w.drewN n := by
  subst hk
  exact average1_nat k s b1 b2 w hi hs c1 c2

set_option maxRecDepth 100000 in
set_option maxHeartbeats 1000000 in
theorem average_ex (bs : Nat) (w : World) (hlt : bs < w.heap.size) (c0 : w.cell? ⟨bs, 0, none⟩ = some (.int .u8 1)) (c1 : w.cell? ⟨bs, 1, none⟩ = some (.int .u8 0)) (c2 : w.cell? ⟨bs, 2, none⟩ = some (.int .u8 0)) (c3 : w.cell? ⟨bs, 3, none⟩ = some (.int .u8 2))
    (c4 : w.cell? ⟨bs, 4, none⟩ = some (.int .u8 2)) (c5 : w.cell? ⟨bs, 5, none⟩ = some (.int .u8 0)) (c6 : w.cell? ⟨bs, 6, none⟩ = some (.int .u8 0)) (c7 : w.cell? ⟨bs, 7, none⟩ = some (.int .u8 2)) :
    Calls Try.prog 38 #[.slice (some ⟨bs, 0, none⟩) 2 2] w fun e w' => e = .returned (px 2 0 0 2) ∧ Below w.heap.size w w' := by
  have hlt1 : bs < w.heap.size + 1 := (by omega); have hlt2 : bs < w.heap.size + 1 + 1 := (by omega); have hlt3 : bs < w.heap.size + 1 + 1 + 1 := (by omega); have hlt4 : bs < w.heap.size + 1 + 1 + 1 + 1 := (by omega); have hlt5 : bs < w.heap.size + 1 + 1 + 1 + 1 + 1 := (by omega); have hlt6 : bs < w.heap.size + 1 + 1 + 1 + 1 + 1 + 1 := (by omega); have hlt7 : bs < w.heap.size + 1 + 1 + 1 + 1 + 1 + 1 + 1 := (by omega); have hlt8 : bs < w.heap.size + 1 + 1 + 1 + 1 + 1 + 1 + 1 + 1 := (by omega); have hlt9 : bs < w.heap.size + 1 + 1 + 1 + 1 + 1 + 1 + 1 + 1 + 1 := (by omega); have hlt10 : bs < w.heap.size + 1 + 1 + 1 + 1 + 1 + 1 + 1 + 1 + 1 + 1 := (by omega); have hlt11 : bs < w.heap.size + 1 + 1 + 1 + 1 + 1 + 1 + 1 + 1 + 1 + 1 + 1 := (by omega); have hlt12 : bs < w.heap.size + 1 + 1 + 1 + 1 + 1 + 1 + 1 + 1 + 1 + 1 + 1 + 1 := (by omega)
  have i0 : ∀ (x0 x1 x2 x3 : Value) (w : World), (Instr.index 94 (.agg #[x0, x1, x2, x3]) (.int .i64 0)).run Try.prog w = .ok x0 w := fun _ _ _ _ _ => by kernel_rfl
  have i1 : ∀ (x0 x1 x2 x3 : Value) (w : World), (Instr.index 94 (.agg #[x0, x1, x2, x3]) (.int .i64 1)).run Try.prog w = .ok x1 w := fun _ _ _ _ _ => by kernel_rfl
  have i2 : ∀ (x0 x1 x2 x3 : Value) (w : World), (Instr.index 94 (.agg #[x0, x1, x2, x3]) (.int .i64 2)).run Try.prog w = .ok x2 w := fun _ _ _ _ _ => by kernel_rfl
  have i3 : ∀ (x0 x1 x2 x3 : Value) (w : World), (Instr.index 94 (.agg #[x0, x1, x2, x3]) (.int .i64 3)).run Try.prog w = .ok x3 w := fun _ _ _ _ _ => by kernel_rfl
  go_enter Try.func38, Try.ntmps38
  go_wp2_with fail
  refine wp_loop_rounds 3 ?_
  rw [rounds_succ]
  go_wp2_with (go_at_call 11; refine (clamp_eq _ _ _ _ _ (by omega) (by omega) (by omega)).mono ?_; rintro e w1 ⟨rfl, rfl⟩)
  refine wp_loop_rounds 5 ?_
  iterate 5 (rw [rounds_succ]; go_wp2)
  rw [rounds_succ]
  go_wp2_with (go_at_call 11; refine (clamp_eq _ _ _ _ _ (by omega) (by omega) (by omega)).mono ?_; rintro e w1 ⟨rfl, rfl⟩)
  refine wp_loop_rounds 5 ?_
  iterate 5 (rw [rounds_succ]; go_wp2)
  rw [rounds_succ]
  go_wp2_with fail
  refine (average1_any _ 0 3 _ _ _ rfl (by omega) (by omega) (by go_simp) (by go_simp)).mono ?_; rintro e w1 ⟨rfl, n1, rfl⟩
  go_wp2_with fail
  refine (average1_any _ 1 0 _ _ _ rfl (by omega) (by omega) (by go_simp) (by go_simp)).mono ?_; rintro e w1 ⟨rfl, n2, rfl⟩
  go_wp2_with fail
  refine (average1_any _ 2 0 _ _ _ rfl (by omega) (by omega) (by go_simp) (by go_simp)).mono ?_; rintro e w1 ⟨rfl, n3, rfl⟩
  go_wp2_with fail
  refine (average1_any _ 3 4 _ _ _ rfl (by omega) (by omega) (by go_simp) (by go_simp)).mono ?_; rintro e w1 ⟨rfl, n4, hw⟩
  have co_0 : w1.cell? ⟨w.heap.size, 0, none⟩ = some (.int .u8 0) := by rw [hw]; go_simp
  have co_1 : w1.cell? ⟨w.heap.size, 1, none⟩ = some (.int .u8 0) := by rw [hw]; go_simp
  have co_2 : w1.cell? ⟨w.heap.size, 2, none⟩ = some (.int .u8 0) := by rw [hw]; go_simp
  have co_3 : w1.cell? ⟨w.heap.size, 3, none⟩ = some (.int .u8 0) := by rw [hw]; go_simp
  have fo_0 : w1.frozen? ⟨w.heap.size, 0, none⟩ = false := by rw [hw]; go_simp
  have fo_1 : w1.frozen? ⟨w.heap.size, 1, none⟩ = false := by rw [hw]; go_simp
  have fo_2 : w1.frozen? ⟨w.heap.size, 2, none⟩ = false := by rw [hw]; go_simp
  have fo_3 : w1.frozen? ⟨w.heap.size, 3, none⟩ = false := by rw [hw]; go_simp
  have hB : Below w.heap.size w w1 := by
    rw [hw]
    (with_reducible repeat (first | assumption | exact Below.refl _ _ | refine Below.setCell ?_ (by first | omega | (simp; done) | (simp; omega)) _ | refine Below.drew ?_ | refine bdrewN ?_ _ | refine Below.alloc ?_ (by first | omega | (simp; done) | (simp; omega)) _))
  clear hw
  go_wp2_with fail
  refine bodyPost_ret (v := px 2 0 0 2) (by simp [results, Try.results38, go_sem, co_0, co_1, co_2, co_3]) rfl ⟨rfl, ?_⟩
  (with_reducible repeat (first | assumption | exact Below.refl _ _ | refine Below.setCell ?_ (by first | omega | (simp; done) | (simp; omega)) _ | refine Below.drew ?_ | refine bdrewN ?_ _ | refine Below.alloc ?_ (by first | omega | (simp; done) | (simp; omega)) _))

set_option maxHeartbeats 1000000 in
theorem ex08_any (w : World) : Calls Try.prog 14 #[] w fun e w' => e = .returned (.bool true) ∧ Below w.heap.size w w' := by
  have H1 : ∀ w' : World, Calls Try.prog 12 #[px 128 128 128 128, px 0 0 0 255] w' fun e w'' => e = .returned (px 128 128 128 255) ∧ Below w'.heap.size w' w'' :=
    fun w' => over_any 128 128 128 128 0 0 0 255 w' (by omega) (by omega) (by omega) (by omega) (by omega) (by omega) (by omega) (by omega)
  have H2 : ∀ w' : World, Calls Try.prog 37 #[.int .u8 255, .int .u8 100, .int .u8 0, .int .u8 128] w' fun e w'' => e = .returned (px 128 50 0 128) ∧ Below w'.heap.size w' w'' :=
    fun w' => premul_any 255 100 0 128 w' (by omega) (by omega) (by omega) (by omega)
  go_enter Try.func14, Try.ntmps14
  go_wp2_with fail
  refine (H1 _).mono ?_
  (rintro e w1 ⟨rfl, hb_w1⟩; have hB_w1 : Below w.heap.size w w1 := bon (by (with_reducible repeat (first | assumption | exact Below.refl _ _ | refine Below.setCell ?_ (by first | omega | (simp; done) | (simp; omega)) _ | refine Below.drew ?_ | refine bdrewN ?_ _ | refine Below.alloc ?_ (by first | omega | (simp; done) | (simp; omega)) _))) (by first | omega | (simp; omega) | (simp; done)) hb_w1; have hz_w1 := hB_w1.size; clear hb_w1)
  go_wp2_with fail
  refine (H2 _).mono ?_
  (rintro e w2 ⟨rfl, hb_w2⟩; have hB_w2 : Below w.heap.size w w2 := bon (by (with_reducible repeat (first | assumption | exact Below.refl _ _ | refine Below.setCell ?_ (by first | omega | (simp; done) | (simp; omega)) _ | refine Below.drew ?_ | refine bdrewN ?_ _ | refine Below.alloc ?_ (by first | omega | (simp; done) | (simp; omega)) _))) (by first | omega | (simp; omega) | (simp; done)) hb_w2; have hz_w2 := hB_w2.size; clear hb_w2)
  go_wp2_with fail
  refine (average_ex w2.heap.size _ (by simp) (by go_simp) (by go_simp) (by go_simp) (by go_simp) (by go_simp) (by go_simp) (by go_simp) (by go_simp)).mono ?_
  (rintro e w3 ⟨rfl, hb_w3⟩; have hB_w3 : Below w.heap.size w w3 := bon (by (with_reducible repeat (first | assumption | exact Below.refl _ _ | refine Below.setCell ?_ (by first | omega | (simp; done) | (simp; omega)) _ | refine Below.drew ?_ | refine bdrewN ?_ _ | refine Below.alloc ?_ (by first | omega | (simp; done) | (simp; omega)) _))) (by first | omega | (simp; omega) | (simp; done)) hb_w3; have hz_w3 := hB_w3.size; clear hb_w3)
  go_wp2_with fail
  go_ret
  exact ⟨rfl, hB_w3⟩
end Go.Proofs.Ytijfldgkmbhdoaa
