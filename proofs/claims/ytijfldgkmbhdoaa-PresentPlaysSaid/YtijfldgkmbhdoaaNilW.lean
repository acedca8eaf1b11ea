/- PresentNil: the walk. -/
import Derived.Test.YtijfldgkmbhdoaaNextW
set_option linter.unusedVariables false
set_option linter.unusedSimpArgs false
namespace Go.Proofs.Ytijfldgkmbhdoaa
open Go.RowKit
attribute [local go_sem ↓] Go.wp_at_zero Go.wp_at_succ
theorem pdiscard_nil (t : Int) (w : World) : Calls Try.prog 30 #[.pointer none, .int .i64 t] w fun e w' => e = .returned (.slice none 0 0) ∧ w = w' := by
  go_enter Try.func30, Try.ntmps30
  go_wp2_with (go_at_call 44; refine (pusable_nil _).mono ?_; rintro e w' ⟨rfl, rfl⟩)
  go_ret
  exact ⟨rfl, rfl⟩
set_option maxRecDepth 100000 in
set_option maxHeartbeats 4000000 in
theorem presentnil_any (nm : ByteArray) (wd ht rf sc tr x y t : Int) (w : World) (hsz : nm.size ≤ 9223372036854775807) :
    Calls Try.prog 10 #[outv nm wd ht rf sc tr x y, .int .i64 t] w fun e w' => e = .returned (.bool true) ∧ Below w.heap.size w w' := by
  obtain ⟨e, h⟩ := chk_total nm wd ht rf sc tr x y
  have hr := chk_rng h
  by_cases he : e = 0
  · subst he
    go_enter Try.func10, Try.ntmps10
    go_wp2_with (first | (go_at_call 18; refine (pnext_nil _ _).mono ?_; rintro e w' ⟨rfl, rfl⟩) | (go_at_call 21; refine (pcommit_nil _ _ _).mono ?_; rintro e w' ⟨rfl, rfl⟩) | (go_at_call 30; refine (pdiscard_nil _ _).mono ?_; rintro e w' ⟨rfl, rfl⟩) | (go_at_call 23; refine (ptick_nil _ _).mono ?_; rintro e w' ⟨rfl, rfl⟩) | (go_at_call 24; refine (psequence_nil _).mono ?_; rintro e w' ⟨rfl, rfl⟩) | (go_at_call 22; refine (ppending_nil _).mono ?_; rintro e w' ⟨rfl, rfl⟩))
    refine (pnew_ok _ _ _ _ _ _ _ _ _ hsz h).mono ?_; rintro e' w1 ⟨p, rfl, hb_w1, k1⟩
    have hB1 : Below w.heap.size w w1 := bon (by (with_reducible repeat (first | assumption | exact Below.refl _ _ | refine Below.setCell ?_ (by first | omega | (simp; done) | (simp; omega)) _ | refine Below.drew ?_ | refine bdrewN ?_ _ | refine Below.alloc ?_ (by first | omega | (simp; done) | (simp; omega)) _))) (by simp) hb_w1
    have K1 : Blk w1 (w.heap.size) 30 #[.string nm, .int .i64 wd, .int .i64 ht, .int .i64 rf, .int .i64 sc, .int .i64 tr, .int .i64 x, .int .i64 y] := Blk.below hb_w1 (by (with_reducible repeat (first | assumption | (refine Blk.newAt ?_; first | rfl | (simp; done)) | refine Blk.alloc ?_ _ | refine Blk.drew ?_ | refine Blk.other ?_ (by simp) _)))
    obtain ⟨c0, c1, c2, c3, c4, c5, c6, c7⟩ := out_cells K1
    clear hb_w1 K1 k1
    go_wp2_with fail
    refine (r23check_any _ _ _ _ _ _ _ _ 0 _ hsz h).mono ?_; rintro e' w2 ⟨rfl, hb2⟩
    have hB2 := bon hB1 hB1.size hb2
    clear hb2
    go_wp2_with fail
    refine (ex30_true _).mono ?_; rintro e' w3 ⟨rfl, hb3⟩
    have hB3 := bon hB2 hB2.size hb3
    clear hb3
    go_wp2_with fail
    go_ret
    exact ⟨rfl, hB3⟩
  · have he1 : (e == 0) = false := by simpa using he
    go_enter Try.func10, Try.ntmps10
    go_wp2_with (first | (go_at_call 18; refine (pnext_nil _ _).mono ?_; rintro e w' ⟨rfl, rfl⟩) | (go_at_call 21; refine (pcommit_nil _ _ _).mono ?_; rintro e w' ⟨rfl, rfl⟩) | (go_at_call 30; refine (pdiscard_nil _ _).mono ?_; rintro e w' ⟨rfl, rfl⟩) | (go_at_call 23; refine (ptick_nil _ _).mono ?_; rintro e w' ⟨rfl, rfl⟩) | (go_at_call 24; refine (psequence_nil _).mono ?_; rintro e w' ⟨rfl, rfl⟩) | (go_at_call 22; refine (ppending_nil _).mono ?_; rintro e w' ⟨rfl, rfl⟩))
    refine (pnew_bad _ _ _ _ _ _ _ _ e _ hsz h he).mono ?_; rintro e' w1 ⟨rfl, hb_w1⟩
    have hB1 : Below w.heap.size w w1 := bon (by (with_reducible repeat (first | assumption | exact Below.refl _ _ | refine Below.setCell ?_ (by first | omega | (simp; done) | (simp; omega)) _ | refine Below.drew ?_ | refine bdrewN ?_ _ | refine Below.alloc ?_ (by first | omega | (simp; done) | (simp; omega)) _))) (by simp) hb_w1
    have K1 : Blk w1 (w.heap.size) 30 #[.string nm, .int .i64 wd, .int .i64 ht, .int .i64 rf, .int .i64 sc, .int .i64 tr, .int .i64 x, .int .i64 y] := Blk.below hb_w1 (by (with_reducible repeat (first | assumption | (refine Blk.newAt ?_; first | rfl | (simp; done)) | refine Blk.alloc ?_ _ | refine Blk.drew ?_ | refine Blk.other ?_ (by simp) _)))
    obtain ⟨c0, c1, c2, c3, c4, c5, c6, c7⟩ := out_cells K1
    clear hb_w1 K1
    go_wp2_with fail
    refine (r23check_any _ _ _ _ _ _ _ _ e _ hsz h).mono ?_; rintro e' w2 ⟨rfl, hb2⟩
    have hB2 := bon hB1 hB1.size hb2
    clear hb2
    go_wp2_with fail
    refine (ex30_true _).mono ?_; rintro e' w3 ⟨rfl, hb3⟩
    have hB3 := bon hB2 hB2.size hb3
    clear hb3
    go_wp2_with fail
    go_ret
    exact ⟨rfl, hB3⟩
end Go.Proofs.Ytijfldgkmbhdoaa
