/- PresentNext: the walk. -/
import Derived.Test.YtijfldgkmbhdoaaEx30
import Derived.Test.YtijfldgkmbhdoaaFresh
set_option linter.unusedVariables false
set_option linter.unusedSimpArgs false
namespace Go.Proofs.Ytijfldgkmbhdoaa
open Go.RowKit Go.Sort
attribute [local go_sem ↓] Go.wp_at_zero Go.wp_at_succ
attribute [local go_sem] calm calmAt calmUpon

theorem out_cells {w : World} {b : Nat} {nm : ByteArray} {wd ht rf sc tr x y : Int} (k : Blk w b 30 #[.string nm, .int .i64 wd, .int .i64 ht, .int .i64 rf, .int .i64 sc, .int .i64 tr, .int .i64 x, .int .i64 y]) :
    w.cell? ⟨b, 0, none⟩ = some (.string nm) ∧ w.cell? ⟨b, 1, none⟩ = some (.int .i64 wd) ∧ w.cell? ⟨b, 2, none⟩ = some (.int .i64 ht) ∧ w.cell? ⟨b, 3, none⟩ = some (.int .i64 rf) ∧
    w.cell? ⟨b, 4, none⟩ = some (.int .i64 sc) ∧ w.cell? ⟨b, 5, none⟩ = some (.int .i64 tr) ∧ w.cell? ⟨b, 6, none⟩ = some (.int .i64 x) ∧ w.cell? ⟨b, 7, none⟩ = some (.int .i64 y) :=
  ⟨k.cell 0, k.cell 1, k.cell 2, k.cell 3, k.cell 4, k.cell 5, k.cell 6, k.cell 7⟩
theorem cell_regrown {w : World} {b o : Nat} {v : Value} (h : w.cell? ⟨b, o, none⟩ = some v) : ∀ d os, (grow (redrawn w d) os).cell? ⟨b, o, none⟩ = some v :=
  fun d os => ((below_regrown w d os).cell (p := ⟨b, o, none⟩) (World.block_lt_of_cell? w _ h)).trans h
set_option maxRecDepth 100000 in
set_option maxHeartbeats 4000000 in
theorem presentnext_bad (nm : ByteArray) (wd ht rf sc tr x y now e : Int) (w : World) (hsz : nm.size ≤ 9223372036854775807) (h : chkIs nm wd ht rf sc tr x y e) (he : e ≠ 0) :
    Calls Try.prog 4 #[outv nm wd ht rf sc tr x y, .int .i64 now] w fun e w' => e = .returned (.bool true) ∧ Below w.heap.size w w' := by
  have hr := chk_rng h
  go_enter Try.func4, Try.ntmps4
  go_wp2_with fail
  refine (pnew_bad _ _ _ _ _ _ _ _ e _ hsz h he).mono ?_; rintro e' w1 ⟨rfl, hb_w1⟩
  have hB1 : Below w.heap.size w w1 := bon (by (with_reducible repeat (first | assumption | exact Below.refl _ _ | refine Below.setCell ?_ (by first | omega | (simp; done) | (simp; omega)) _ | refine Below.drew ?_ | refine bdrewN ?_ _ | refine Below.alloc ?_ (by first | omega | (simp; done) | (simp; omega)) _))) (by simp) hb_w1
  have K1 : Blk w1 (w.heap.size) 30 #[.string nm, .int .i64 wd, .int .i64 ht, .int .i64 rf, .int .i64 sc, .int .i64 tr, .int .i64 x, .int .i64 y] := Blk.below hb_w1 (by (with_reducible repeat (first | assumption | (refine Blk.newAt ?_; first | rfl | (simp; done)) | refine Blk.alloc ?_ _ | refine Blk.drew ?_ | refine Blk.other ?_ (by simp) _)))
  obtain ⟨c0, c1, c2, c3, c4, c5, c6, c7⟩ := out_cells K1
  clear hb_w1 K1
  go_wp2_with fail
  refine (r23check_any _ _ _ _ _ _ _ _ e _ hsz h).mono ?_; rintro e' w2 ⟨rfl, hb2⟩
  have hB2 := bon hB1 hB1.size hb2
  clear hb2
  go_wp2_with fail
  refine (ex30_true _).mono ?_; rintro e' w3 ⟨rfl, hb3⟩
  have hB3 := bon hB2 hB2.size hb3
  clear hb3
  go_wp2_with fail
  go_ret
  exact ⟨rfl, hB3⟩
set_option maxRecDepth 100000 in
set_option maxHeartbeats 4000000 in
theorem presentnext_far (nm : ByteArray) (wd ht rf sc tr x y now : Int) (w : World) (hsz : nm.size ≤ 9223372036854775807) (h : chkIs nm wd ht rf sc tr x y 0) (hn : now < 0 ∨ 1152921504606846976 < now) :
    Calls Try.prog 4 #[outv nm wd ht rf sc tr x y, .int .i64 now] w fun e w' => e = .returned (.bool true) ∧ Below w.heap.size w w' := by
  have key : now < 0 ∨ (0 ≤ now ∧ 1152921504606846976 < now) := by omega
  clear hn
  rcases key with hn | ⟨hn, hn2⟩
  all_goals
    go_enter Try.func4, Try.ntmps4
    go_wp2_with fail
    refine (pnew_ok _ _ _ _ _ _ _ _ _ hsz h).mono ?_; rintro e' w1 ⟨p, rfl, hb_w1, k1⟩
    have hB1 : Below w.heap.size w w1 := bon (by (with_reducible repeat (first | assumption | exact Below.refl _ _ | refine Below.setCell ?_ (by first | omega | (simp; done) | (simp; omega)) _ | refine Below.drew ?_ | refine bdrewN ?_ _ | refine Below.alloc ?_ (by first | omega | (simp; done) | (simp; omega)) _))) (by simp) hb_w1
    clear hb_w1 k1
    go_wp2_with fail
    refine (ex30_true _).mono ?_; rintro e' w3 ⟨rfl, hb3⟩
    have hB3 := bon hB1 hB1.size hb3
    clear hb3
    go_wp2_with fail
    go_ret
    exact ⟨rfl, hB3⟩
set_option maxRecDepth 100000 in
set_option maxHeartbeats 4000000 in
theorem presentnext_near (nm : ByteArray) (wd ht rf sc tr x y now : Int) (w : World) (hsz : nm.size ≤ 9223372036854775807) (h : chkIs nm wd ht rf sc tr x y 0) (hn : 0 ≤ now ∧ now ≤ 1152921504606846976) :
    Calls Try.prog 4 #[outv nm wd ht rf sc tr x y, .int .i64 now] w fun e w' => e = .returned (.bool true) ∧ Below w.heap.size w w' := by
  obtain ⟨ha, hr, hp⟩ := chk_zero h
  have hi := ivl_rng ⟨hr.2.2.1, hr.2.2.2⟩
  have hx := nxt_rng now hi
  have hcn : clampT now = now := by unfold clampT; rw [if_neg (by omega), if_neg (by omega)]
  rw [hcn] at hx
  clear hcn
  go_enter Try.func4, Try.ntmps4
  go_wp2_with fail
  refine (pnew_ok _ _ _ _ _ _ _ _ _ hsz h).mono ?_; rintro e' w1 ⟨p, rfl, hb_w1, k1⟩
  have hB1 : Below w.heap.size w w1 := bon (by (with_reducible repeat (first | assumption | exact Below.refl _ _ | refine Below.setCell ?_ (by first | omega | (simp; done) | (simp; omega)) _ | refine Below.drew ?_ | refine bdrewN ?_ _ | refine Below.alloc ?_ (by first | omega | (simp; done) | (simp; omega)) _))) (by simp) hb_w1
  have K1 : Blk w1 (w.heap.size) 30 #[.string nm, .int .i64 wd, .int .i64 ht, .int .i64 rf, .int .i64 sc, .int .i64 tr, .int .i64 x, .int .i64 y] := Blk.below hb_w1 (by (with_reducible repeat (first | assumption | (refine Blk.newAt ?_; first | rfl | (simp; done)) | refine Blk.alloc ?_ _ | refine Blk.drew ?_ | refine Blk.other ?_ (by simp) _)))
  obtain ⟨c0, c1, c2, c3, c4, c5, c6, c7⟩ := out_cells K1
  have hpc := (clk_facts k1).1
  clear hb_w1 K1 k1
  go_wp2_with fail
  have g0 := cell_regrown c0
  have g1 := cell_regrown c1
  have g2 := cell_regrown c2
  have g3 := cell_regrown c3
  have g4 := cell_regrown c4
  have g5 := cell_regrown c5
  have g6 := cell_regrown c6
  have g7 := cell_regrown c7
  have gp := Lib.hid (cell_regrown hpc)
  (refine wp_region_calm 5 [] [false, false, false, false, false] (by kernel_rfl) (by kernel_rfl) (by decide) (freshOk_of (by kernel_rfl) (by kernel_rfl) (fun x hx => by cases hx)) ?_; simp only [List.take_succ_cons, List.take_zero, List.drop_succ_cons, List.drop_zero, List.zip_cons_cons, List.zip_nil_left, List.zip_nil_right]; (repeat (first | refine wpCalm_pass ?_ | (refine wpCalm_step (fun K hK => ?_); go_simp; first | (refine hK _ ?_; clear hK K) | (apply Exists.intro; refine ⟨fun _ => ?_, hK _ ?_⟩; (first | exact pnext_ok p _ _ _ (gp.out _ _) hi (by omega) | exact r23interval_ok _ _ _ _ _ _ _ _ _ ha hr hp); clear hK K)))); (first | refine wpCalm_nil ?_ | skip))
  intro F wx hF
  obtain rfl := hF.nil
  have hB2 : Below w.heap.size w wx := bon hB1 hB1.size hF.below
  clear g0 g1 g2 g3 g4 g5 g6 g7 gp hF c0 c1 c2 c3 c4 c5 c6 c7 hpc
  unfold putL
  generalize nxt (ivl rf) now = n at *
  generalize ivl rf = d at *
  obtain ⟨x1, x2, x3⟩ := hx
  have x4 : (n % d == 0) = true := by simp [x3]
  have X3 := Lib.hid x3
  clear x3 h ha hr hp
  go_wp2_with fail
  refine (ex30_true _).mono ?_; rintro e' w3 ⟨rfl, hb3⟩
  have hB3 := bon hB2 hB2.size hb3
  clear hb3
  go_wp2_with fail
  go_ret
  exact ⟨rfl, hB3⟩
theorem presentnext_any (nm : ByteArray) (wd ht rf sc tr x y now : Int) (w : World) (hsz : nm.size ≤ 9223372036854775807) :
    Calls Try.prog 4 #[outv nm wd ht rf sc tr x y, .int .i64 now] w fun e w' => e = .returned (.bool true) ∧ Below w.heap.size w w' := by
  obtain ⟨e, h⟩ := chk_total nm wd ht rf sc tr x y
  by_cases he : e = 0
  · subst he
    by_cases hn : 0 ≤ now ∧ now ≤ 1152921504606846976
    · exact presentnext_near _ _ _ _ _ _ _ _ _ _ hsz h hn
    · exact presentnext_far _ _ _ _ _ _ _ _ _ _ hsz h (by omega)
  · exact presentnext_bad _ _ _ _ _ _ _ _ _ e _ hsz h he
end Go.Proofs.Ytijfldgkmbhdoaa
