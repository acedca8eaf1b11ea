/- The reference's Tick: no blank. -/
import Derived.Test.YtijfldgkmbhdoaaNum
import Derived.Test.YtijfldgkmbhdoaaRCom
set_option linter.unusedVariables false
set_option linter.unusedSimpArgs false
namespace Go.Proofs.Ytijfldgkmbhdoaa
open Go.RowKit
attribute [local go_sem ↓] Go.wp_at_zero Go.wp_at_succ

set_option maxRecDepth 100000 in
set_option maxHeartbeats 1000000 in
theorem rtick_no (iv last t : Int) (ad : Option Addr) (n c : Nat) (w : World) (ht : -9223372036854775808 ≤ t ∧ t < 9223372036854775808) :
    Calls Try.prog 31 #[rclk false iv last (.slice ad n c), .int .i64 t] w fun e w' => e = .returned (.tuple #[rclk false iv last (.slice ad n c), .slice none 0 0]) ∧ Below w.heap.size w w' := by
  have KE : Blk ((w.alloc (Obj.cells #[.bool false, .int .i64 iv, .int .i64 last, .slice ad n c] 57)).alloc (Obj.cells #[.bool false, .int .i64 iv, .int .i64 last, .slice ad n c] 57)) (w.heap.size + 1) 57 #[.bool false, .int .i64 iv, .int .i64 last, .slice ad n c] := Blk.newAt (by simp)
  have HKE := Lib.hid KE
  clear KE
  go_enter Try.func31, Try.ntmps31
  go_wp2_with (go_at_call 48; refine (rlimit_any _ _ ht).mono ?_; rintro e w' ⟨rfl, rfl⟩)
  (try simp only [Exit.inBlock, Exit.then]); refine bodyPost_ret (results_ct rfl _ HKE.out rfl Try.underlying57 rfl (by kernel_rfl)) rfl ?_
  exact ⟨rfl, by (with_reducible repeat (first | assumption | exact Below.refl _ _ | refine Below.setCell ?_ (by first | omega | (simp; done) | (simp; omega)) _ | refine Below.drew ?_ | refine bdrewN ?_ _ | refine Below.alloc ?_ (by first | omega | (simp; done) | (simp; omega)) _))⟩
set_option maxRecDepth 100000 in
set_option maxHeartbeats 1000000 in
theorem rtick_same (iv last t : Int) (ad : Option Addr) (n c : Nat) (w : World) (ht : -9223372036854775808 ≤ t ∧ t < 9223372036854775808) (hl : clampT t ≤ last) :
    Calls Try.prog 31 #[rclk true iv last (.slice ad n c), .int .i64 t] w fun e w' => e = .returned (.tuple #[rclk true iv last (.slice ad n c), .slice none 0 0]) ∧ Below w.heap.size w w' := by
  have KE : Blk ((w.alloc (Obj.cells #[.bool true, .int .i64 iv, .int .i64 last, .slice ad n c] 57)).alloc (Obj.cells #[.bool true, .int .i64 iv, .int .i64 last, .slice ad n c] 57)) (w.heap.size + 1) 57 #[.bool true, .int .i64 iv, .int .i64 last, .slice ad n c] := Blk.newAt (by simp)
  have HKE := Lib.hid KE
  have hC := fun W => rlimit_any t W ht
  generalize clampT t = ct at *
  have HC := Lib.hid hC
  clear KE hC
  go_enter Try.func31, Try.ntmps31
  go_wp2_with (go_at_call 48; refine (HC.out _).mono ?_; rintro e w' ⟨rfl, rfl⟩)
  (try simp only [Exit.inBlock, Exit.then]); refine bodyPost_ret (results_ct rfl _ HKE.out rfl Try.underlying57 rfl (by kernel_rfl)) rfl ?_
  exact ⟨rfl, by (with_reducible repeat (first | assumption | exact Below.refl _ _ | refine Below.setCell ?_ (by first | omega | (simp; done) | (simp; omega)) _ | refine Below.drew ?_ | refine bdrewN ?_ _ | refine Below.alloc ?_ (by first | omega | (simp; done) | (simp; omega)) _))⟩
set_option maxRecDepth 100000 in
set_option maxHeartbeats 1000000 in
theorem rtick_still (iv last t : Int) (ad : Option Addr) (n c : Nat) (w : World) (hi : 1 ≤ iv ∧ iv ≤ 1000000000) (hlr : 0 ≤ last ∧ last ≤ 4611686018427387904) (ht : -9223372036854775808 ≤ t ∧ t < 9223372036854775808) (hl : last < clampT t) (hx : clampT t < nxt iv last) :
    Calls Try.prog 31 #[rclk true iv last (.slice ad n c), .int .i64 t] w fun e w' => e = .returned (.tuple #[rclk true iv (clampT t) (.slice ad n c), .slice none 0 0]) ∧ Below w.heap.size w w' := by
  have hC := fun W => rlimit_any t W ht
  have hN := fun W => rnext_ok iv last last ad n c W hi (by omega)
  generalize clampT t = ct at *
  generalize nxt iv last = nx at *
  have HC := Lib.hid hC
  have HNX := Lib.hid hN
  clear hC hN
  go_enter Try.func31, Try.ntmps31
  go_wp2_with (first | (go_at_call 48; refine (HC.out _).mono ?_; rintro e w' ⟨rfl, rfl⟩) | (go_at_call 35; refine (HNX.out _).mono ?_; rintro e w1 ⟨rfl, hb_w1⟩; have hz1 := hb_w1.size; simp at hz1; have hB1 : Below w.heap.size w w1 := bon (by (with_reducible repeat (first | assumption | exact Below.refl _ _ | refine Below.setCell ?_ (by first | omega | (simp; done) | (simp; omega)) _ | refine Below.drew ?_ | refine bdrewN ?_ _ | refine Below.alloc ?_ (by first | omega | (simp; done) | (simp; omega)) _))) (by simp; try omega) hb_w1; have K4 : Blk w1 (w.heap.size + 1) 57 #[.bool false, .int .i64 0, .int .i64 0, .slice none 0 0] := Blk.below hb_w1 (by (with_reducible repeat (first | assumption | (refine Blk.newAt ?_; first | rfl | (simp; done)) | refine Blk.alloc ?_ _ | refine Blk.drew ?_ | refine Blk.other ?_ (by simp) _))); have K6 : Blk w1 (w.heap.size + 1 + 1) 57 #[.bool true, .int .i64 iv, .int .i64 ct, .slice ad n c] := Blk.below hb_w1 (by (with_reducible repeat (first | assumption | (refine Blk.newAt ?_; first | rfl | (simp; done)) | refine Blk.alloc ?_ _ | refine Blk.drew ?_ | refine Blk.other ?_ (by simp) _))); obtain ⟨⟨c0, f0⟩, ⟨c1, f1⟩, ⟨c2, f2⟩, c3, f3⟩ := K4.c4; obtain ⟨⟨d0, g0⟩, ⟨d1, g1⟩, ⟨d2, g2⟩, d3, g3⟩ := K6.c4; clear hb_w1))
  (try simp only [Exit.inBlock, Exit.then]); refine bodyPost_ret (results_ct rfl _ ((((K4.set 0 _).set 1 _).set 2 _).set 3 _) rfl Try.underlying57 rfl (by kernel_rfl)) rfl ?_
  exact ⟨rfl, by (with_reducible repeat (first | assumption | exact Below.refl _ _ | refine Below.setCell ?_ (by first | omega | (simp; done) | (simp; omega)) _ | refine Below.drew ?_ | refine bdrewN ?_ _ | refine Below.alloc ?_ (by first | omega | (simp; done) | (simp; omega)) _))⟩
end Go.Proofs.Ytijfldgkmbhdoaa
