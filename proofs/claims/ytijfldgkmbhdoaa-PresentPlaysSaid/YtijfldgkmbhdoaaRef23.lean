/- Contracts of the reference of layer 23: it answers as the program does. -/
import Derived.Test.YtijfldgkmbhdoaaOutB
set_option linter.unusedVariables false
set_option linter.unusedSimpArgs false
namespace Go.Proofs.Ytijfldgkmbhdoaa
open Go.RowKit
attribute [local go_sem ↓] Go.wp_at_zero Go.wp_at_succ

theorem r07valid_yes (t : Int) (w : World) (h : 0 ≤ t ∧ t < 8) : Calls Try.prog 41 #[.int .i64 t] w fun e w' => e = .returned (.bool true) ∧ w = w' := by
  go_enter Try.func41, Try.ntmps41
  go_wp2
  go_ret
  exact ⟨by first | rfl | (simp; omega), rfl⟩
theorem r07valid_no (t : Int) (w : World) (h : t < 0 ∨ 8 ≤ t) : Calls Try.prog 41 #[.int .i64 t] w fun e w' => e = .returned (.bool false) ∧ w = w' := by
  rcases h with h | h
  · go_enter Try.func41, Try.ntmps41
    go_wp2
    go_ret
    exact ⟨by first | rfl | (simp; omega), rfl⟩
  · go_enter Try.func41, Try.ntmps41
    go_wp2
    go_ret
    exact ⟨by first | rfl | (simp; omega), rfl⟩
theorem r07clean_any (t : Int) (w : World) (h : 0 ≤ t ∧ t < 8) : Calls Try.prog 62 #[.int .i64 t] w fun e w' => e = .returned (.int .i64 t) ∧ w = w' := by
  go_enter Try.func62, Try.ntmps62
  go_wp2_with (go_at_call 41; refine (r07valid_yes _ _ h).mono ?_; rintro e w' ⟨rfl, rfl⟩)
  go_ret
  exact ⟨rfl, rfl⟩
theorem r07size_odd (t a b : Int) (w : World) (h : 0 ≤ t ∧ t < 8) (ho : t % 2 = 1) : Calls Try.prog 59 #[.int .i64 t, .int .i64 a, .int .i64 b] w fun e w' => e = .returned (.tuple #[.int .i64 b, .int .i64 a]) ∧ w = w' := by
  have h4 : (t % 2 == 1) = true := by simpa using ho
  clear ho
  go_enter Try.func59, Try.ntmps59
  go_wp2_with (go_at_call 62; refine (r07clean_any _ _ h).mono ?_; rintro e w' ⟨rfl, rfl⟩)
  go_ret2
  exact ⟨rfl, rfl⟩
theorem r07size_even (t a b : Int) (w : World) (h : 0 ≤ t ∧ t < 8) (ho : t % 2 = 0) : Calls Try.prog 59 #[.int .i64 t, .int .i64 a, .int .i64 b] w fun e w' => e = .returned (.tuple #[.int .i64 a, .int .i64 b]) ∧ w = w' := by
  have h4 : (t % 2 == 1) = false := by simp; omega
  clear ho
  go_enter Try.func59, Try.ntmps59
  go_wp2_with (go_at_call 62; refine (r07clean_any _ _ h).mono ?_; rintro e w' ⟨rfl, rfl⟩)
  go_ret2
  exact ⟨rfl, rfl⟩
theorem r07size_any (t a b : Int) (w : World) (h : 0 ≤ t ∧ t < 8) : Calls Try.prog 59 #[.int .i64 t, .int .i64 a, .int .i64 b] w fun e w' => e = .returned (.tuple #[.int .i64 (shw t a b), .int .i64 (shw t b a)]) ∧ w = w' := by
  unfold shw
  by_cases ho : t % 2 = 1
  · rw [if_pos ho, if_pos ho]; exact r07size_odd t a b w h ho
  · rw [if_neg ho, if_neg ho]; exact r07size_even t a b w h (by omega)
theorem r23mode_yes (n sc : Int) (w : World) (hs : 1 ≤ sc ∧ sc ≤ 4) (h : sizeOk n sc) :
    Calls Try.prog 42 #[.int .i64 n, .int .i64 sc] w fun e w' => e = .returned (.bool true) ∧ w = w' := by
  obtain ⟨h1, h2, h3⟩ := h
  have h4 : (n % sc == 0) = true := by simpa using h3
  clear h3
  go_enter Try.func42, Try.ntmps42
  go_wp2
  go_ret
  exact ⟨by first | rfl | (simp; omega), rfl⟩
theorem r23mode_no (n sc : Int) (w : World) (hs : 1 ≤ sc ∧ sc ≤ 4) (h : sizeBad n sc) :
    Calls Try.prog 42 #[.int .i64 n, .int .i64 sc] w fun e w' => e = .returned (.bool false) ∧ w = w' := by
  rcases h with h | h | ⟨h1, h2, h3⟩
  · go_enter Try.func42, Try.ntmps42
    go_wp2
    go_ret
    exact ⟨by first | rfl | (simp; omega), rfl⟩
  · go_enter Try.func42, Try.ntmps42
    go_wp2
    go_ret
    exact ⟨by first | rfl | (simp; omega), rfl⟩
  · have h4 : (n % sc == 0) = false := by simpa using h3
    clear h3
    go_enter Try.func42, Try.ntmps42
    go_wp2
    go_ret
    exact ⟨by first | rfl | (simp; omega), rfl⟩

theorem shw_div {wd ht sc tr : Int} (hs : 1 ≤ sc ∧ sc ≤ 4) (b1 : sizeOk wd sc) (b2 : sizeOk ht sc) : (0 ≤ shw tr wd ht / sc ∧ shw tr wd ht / sc ≤ 256) ∧ (0 ≤ shw tr ht wd / sc ∧ shw tr ht wd / sc ≤ 256) ∧ (1 ≤ shw tr wd ht ∧ shw tr wd ht ≤ 256) ∧ (1 ≤ shw tr ht wd ∧ shw tr ht wd ≤ 256) := by
  have s1 : 1 ≤ shw tr wd ht ∧ shw tr wd ht ≤ 256 := by have := b1.1; have := b1.2.1; have := b2.1; have := b2.2.1; unfold shw; split <;> omega
  have s2 : 1 ≤ shw tr ht wd ∧ shw tr ht wd ≤ 256 := by have := b1.1; have := b1.2.1; have := b2.1; have := b2.2.1; unfold shw; split <;> omega
  exact ⟨⟨Int.ediv_nonneg (by omega) (by omega), Int.le_trans (Int.ediv_le_self _ (by omega)) s1.2⟩, ⟨Int.ediv_nonneg (by omega) (by omega), Int.le_trans (Int.ediv_le_self _ (by omega)) s2.2⟩, s1, s2⟩

set_option maxRecDepth 100000 in
theorem r23size_any (nm : ByteArray) (wd ht rf sc tr x y : Int) (w : World) (h2 : 0 ≤ tr ∧ tr < 8) (hs : 1 ≤ sc ∧ sc ≤ 4) (b1 : sizeOk wd sc) (b2 : sizeOk ht sc) :
    Calls Try.prog 43 #[outv nm wd ht rf sc tr x y] w fun e w' => e = .returned (.tuple #[.int .i64 (shw tr wd ht / sc), .int .i64 (shw tr ht wd / sc)]) ∧ Below w.heap.size w w' := by
  obtain ⟨d1, d2, d3, d4⟩ := shw_div (tr := tr) hs b1 b2
  clear b1 b2
  go_enter Try.func43, Try.ntmps43
  go_wp2_with (go_at_call 59; refine (r07size_any _ _ _ _ h2).mono ?_; rintro e w' ⟨rfl, rfl⟩)
  go_quiet (fail)
  go_wp2
  go_ret2
  exact ⟨rfl, by (with_reducible repeat (first | assumption | exact Below.refl _ _ | refine Below.setCell ?_ (by first | omega | (simp; done) | (simp; omega)) _ | refine Below.drew ?_ | refine bdrewN ?_ _ | refine Below.alloc ?_ (by first | omega | (simp; done) | (simp; omega)) _))⟩

theorem nm_pos {nm : ByteArray} (h : nm.toList.isEmpty = false) : 1 ≤ nm.size := by
  have e : nm.toList.length = nm.size := by simp [ByteArray.toList_eq]
  rcases Nat.eq_zero_or_pos nm.size with h0 | h0
  · rw [h0] at e
    rw [List.eq_nil_of_length_eq_zero e] at h
    cases h
  · omega

theorem nm_zero {nm : ByteArray} (h : nm.toList.isEmpty = true) : nm.size < 1 := by
  have e : nm.toList.length = nm.size := by simp [ByteArray.toList_eq]
  rw [List.isEmpty_iff] at h
  rw [h] at e
  simp at e
  omega

set_option maxRecDepth 100000 in
set_option maxHeartbeats 2000000 in
theorem r23check_arg (nm : ByteArray) (wd ht rf sc tr x y : Int) (w : World) (hsz : nm.size ≤ 9223372036854775807) (h : argBad nm sc tr) :
    Calls Try.prog 16 #[outv nm wd ht rf sc tr x y] w fun e w' => e = .returned (.int .i64 2) ∧ Below w.heap.size w w' := by
  unfold argBad at h
  rcases h with h0 | ⟨h0, h1⟩ | ⟨h0, h1, h2⟩ | ⟨h0, h1, h2⟩ | ⟨h0, h1, h2, h3⟩ | ⟨h0, h1, h2, h3⟩
  · have g := nm_zero h0
    clear h0
    go_enter Try.func16, Try.ntmps16
    go_wp2
    go_ret
    exact ⟨rfl, by (with_reducible repeat (first | assumption | exact Below.refl _ _ | refine Below.setCell ?_ (by first | omega | (simp; done) | (simp; omega)) _ | refine Below.drew ?_ | refine bdrewN ?_ _ | refine Below.alloc ?_ (by first | omega | (simp; done) | (simp; omega)) _))⟩
  all_goals
    have g := nm_pos h0
    clear h0
    go_enter Try.func16, Try.ntmps16
    go_wp2_with (first | (go_at_call 41; refine (r07valid_yes _ _ ?_).mono ?_; omega; rintro e w' ⟨rfl, rfl⟩) | (go_at_call 41; refine (r07valid_no _ _ ?_).mono ?_; omega; rintro e w' ⟨rfl, rfl⟩))
    go_ret
    exact ⟨rfl, by (with_reducible repeat (first | assumption | exact Below.refl _ _ | refine Below.setCell ?_ (by first | omega | (simp; done) | (simp; omega)) _ | refine Below.drew ?_ | refine bdrewN ?_ _ | refine Below.alloc ?_ (by first | omega | (simp; done) | (simp; omega)) _))⟩

set_option maxRecDepth 100000 in
set_option maxHeartbeats 4000000 in
theorem r23check_rng (nm : ByteArray) (wd ht rf sc tr x y : Int) (w : World) (ha : argOk nm sc tr) (h : rngBad wd ht rf sc) :
    Calls Try.prog 16 #[outv nm wd ht rf sc tr x y] w fun e w' => e = .returned (.int .i64 6) ∧ Below w.heap.size w w' := by
  obtain ⟨h0, h1, h2, hs⟩ := ha
  have g := nm_pos h0
  clear h0
  unfold rngBad at h
  rcases h with b1 | ⟨b1, b2⟩ | ⟨b1, b2, b3⟩ | ⟨b1, b2, b3⟩
  all_goals
    go_enter Try.func16, Try.ntmps16
    go_wp2_with (first | (go_at_call 41; refine (r07valid_yes _ _ ?_).mono ?_; omega; rintro e w' ⟨rfl, rfl⟩) | (go_at_call 42; refine (r23mode_yes _ _ _ hs ?_).mono ?_; with_reducible assumption; rintro e w' ⟨rfl, rfl⟩) | (go_at_call 42; refine (r23mode_no _ _ _ hs ?_).mono ?_; with_reducible assumption; rintro e w' ⟨rfl, rfl⟩))
    go_ret
    exact ⟨rfl, by (with_reducible repeat (first | assumption | exact Below.refl _ _ | refine Below.setCell ?_ (by first | omega | (simp; done) | (simp; omega)) _ | refine Below.drew ?_ | refine bdrewN ?_ _ | refine Below.alloc ?_ (by first | omega | (simp; done) | (simp; omega)) _))⟩

set_option maxRecDepth 100000 in
set_option maxHeartbeats 4000000 in
theorem r23check_plc (nm : ByteArray) (wd ht rf sc tr x y : Int) (w : World) (ha : argOk nm sc tr) (hr : rngOk wd ht rf sc) (h : plcBad wd ht sc tr x y) :
    Calls Try.prog 16 #[outv nm wd ht rf sc tr x y] w fun e w' => e = .returned (.int .i64 6) ∧ Below w.heap.size w w' := by
  obtain ⟨h0, h1, h2, hs⟩ := ha
  have g := nm_pos h0
  clear h0
  obtain ⟨b1, b2, b3, b4⟩ := hr
  obtain ⟨d1, d2, d3, d4⟩ := shw_div (tr := tr) hs b1 b2
  have hS := fun W => r23size_any nm wd ht rf sc tr x y W h2 hs b1 b2
  unfold plcBad at h
  have key : (x < -16384) ∨ (-16384 ≤ x ∧ 16384 - shw tr wd ht / sc < x) ∨ (-16384 ≤ x ∧ x ≤ 16384 - shw tr wd ht / sc ∧ y < -16384) ∨ (-16384 ≤ x ∧ x ≤ 16384 - shw tr wd ht / sc ∧ -16384 ≤ y ∧ 16384 - shw tr ht wd / sc < y) := by
    unfold outC inC at h
    omega
  clear h d3 d4
  generalize shw tr wd ht / sc = X1 at *
  generalize shw tr ht wd / sc = Y1 at *
  have HS := Lib.hid hS
  clear hS
  rcases key with k | ⟨k1, k⟩ | ⟨k1, k2, k⟩ | ⟨k1, k2, k3, k⟩
  all_goals
    go_enter Try.func16, Try.ntmps16
    go_wp2_with (first | (go_at_call 41; refine (r07valid_yes _ _ ?_).mono ?_; omega; rintro e w' ⟨rfl, rfl⟩) | (go_at_call 42; refine (r23mode_yes _ _ _ hs ?_).mono ?_; with_reducible assumption; rintro e w' ⟨rfl, rfl⟩) | (go_at_call 43; refine (HS.out _).mono ?_; rintro e w1 ⟨rfl, hb_w1⟩; obtain ⟨hc_w1, hf_w1⟩ := bcell hb_w1; have hz1 := hb_w1.size; simp at hz1; have hB : Below w.heap.size w w1 := bon (by (with_reducible repeat (first | assumption | exact Below.refl _ _ | refine Below.setCell ?_ (by first | omega | (simp; done) | (simp; omega)) _ | refine Below.drew ?_ | refine bdrewN ?_ _ | refine Below.alloc ?_ (by first | omega | (simp; done) | (simp; omega)) _))) (by simp) hb_w1; have c6 : w1.cell? ⟨w.heap.size, 6, none⟩ = some (.int .i64 x) := (by rw [hc_w1 _ _ (by first | omega | (simp; done) | (simp; omega))]; go_simp); have c7 : w1.cell? ⟨w.heap.size, 7, none⟩ = some (.int .i64 y) := (by rw [hc_w1 _ _ (by first | omega | (simp; done) | (simp; omega))]; go_simp); clear hc_w1 hf_w1 hb_w1))
    go_ret
    exact ⟨rfl, hB⟩

set_option maxRecDepth 100000 in
set_option maxHeartbeats 4000000 in
theorem r23check_ok (nm : ByteArray) (wd ht rf sc tr x y : Int) (w : World) (ha : argOk nm sc tr) (hr : rngOk wd ht rf sc) (h : plcOk wd ht sc tr x y) :
    Calls Try.prog 16 #[outv nm wd ht rf sc tr x y] w fun e w' => e = .returned (.int .i64 0) ∧ Below w.heap.size w w' := by
  obtain ⟨h0, h1, h2, hs⟩ := ha
  have g := nm_pos h0
  clear h0
  obtain ⟨b1, b2, b3, b4⟩ := hr
  obtain ⟨d1, d2, d3, d4⟩ := shw_div (tr := tr) hs b1 b2
  have hS := fun W => r23size_any nm wd ht rf sc tr x y W h2 hs b1 b2
  have k1 : -16384 ≤ x := h.1.1
  have k3 : -16384 ≤ y := h.2.1.1
  have k2 : x ≤ 16384 - shw tr wd ht / sc := by have := h.2.2.1; omega
  have k4 : y ≤ 16384 - shw tr ht wd / sc := by have := h.2.2.2; omega
  clear h d3 d4
  generalize shw tr wd ht / sc = X1 at *
  generalize shw tr ht wd / sc = Y1 at *
  have HS := Lib.hid hS
  clear hS
  go_enter Try.func16, Try.ntmps16
  go_wp2_with (first | (go_at_call 41; refine (r07valid_yes _ _ ?_).mono ?_; omega; rintro e w' ⟨rfl, rfl⟩) | (go_at_call 42; refine (r23mode_yes _ _ _ hs ?_).mono ?_; with_reducible assumption; rintro e w' ⟨rfl, rfl⟩) | (go_at_call 43; refine (HS.out _).mono ?_; rintro e w1 ⟨rfl, hb_w1⟩; obtain ⟨hc_w1, hf_w1⟩ := bcell hb_w1; have hz1 := hb_w1.size; simp at hz1; have hB : Below w.heap.size w w1 := bon (by (with_reducible repeat (first | assumption | exact Below.refl _ _ | refine Below.setCell ?_ (by first | omega | (simp; done) | (simp; omega)) _ | refine Below.drew ?_ | refine bdrewN ?_ _ | refine Below.alloc ?_ (by first | omega | (simp; done) | (simp; omega)) _))) (by simp) hb_w1; have c6 : w1.cell? ⟨w.heap.size, 6, none⟩ = some (.int .i64 x) := (by rw [hc_w1 _ _ (by first | omega | (simp; done) | (simp; omega))]; go_simp); have c7 : w1.cell? ⟨w.heap.size, 7, none⟩ = some (.int .i64 y) := (by rw [hc_w1 _ _ (by first | omega | (simp; done) | (simp; omega))]; go_simp); clear hc_w1 hf_w1 hb_w1))
  go_ret
  exact ⟨rfl, hB⟩

theorem r23check_any (nm : ByteArray) (wd ht rf sc tr x y e : Int) (w : World) (hsz : nm.size ≤ 9223372036854775807) (h : chkIs nm wd ht rf sc tr x y e) :
    Calls Try.prog 16 #[outv nm wd ht rf sc tr x y] w fun v w' => v = .returned (.int .i64 e) ∧ Below w.heap.size w w' := by
  rcases h with ⟨h, rfl⟩ | ⟨h1, h2, rfl⟩ | ⟨h1, h2, h3, rfl⟩ | ⟨h1, h2, h3, rfl⟩
  · exact r23check_arg _ _ _ _ _ _ _ _ w hsz h
  · exact r23check_rng _ _ _ _ _ _ _ _ w h1 h2
  · exact r23check_plc _ _ _ _ _ _ _ _ w h1 h2 h3
  · exact r23check_ok _ _ _ _ _ _ _ _ w h1 h2 h3

set_option maxHeartbeats 1000000 in
theorem r23interval_ok (nm : ByteArray) (wd ht rf sc tr x y : Int) (w : World) (ha : argOk nm sc tr) (hr : rngOk wd ht rf sc) (h : plcOk wd ht sc tr x y) :
    Calls Try.prog 19 #[outv nm wd ht rf sc tr x y] w fun v w' => v = .returned (.int .i64 (ivl rf)) ∧ Below w.heap.size w w' := by
  have r1 := hr.2.2.1
  have r2 := hr.2.2.2
  go_enter Try.func19, Try.ntmps19
  go_wp2_with (go_at_call 16; refine (r23check_ok _ _ _ _ _ _ _ _ _ ha hr h).mono ?_; rintro e w1 ⟨rfl, hb_w1⟩; obtain ⟨hc_w1, hf_w1⟩ := bcell hb_w1; have hz1 := hb_w1.size; simp at hz1; have hB1 : Below w.heap.size w w1 := bon (by (with_reducible repeat (first | assumption | exact Below.refl _ _ | refine Below.setCell ?_ (by first | omega | (simp; done) | (simp; omega)) _ | refine Below.drew ?_ | refine bdrewN ?_ _ | refine Below.alloc ?_ (by first | omega | (simp; done) | (simp; omega)) _))) (by simp) hb_w1; have c3 : w1.cell? ⟨w.heap.size, 3, none⟩ = some (.int .i64 rf) := (by rw [hc_w1 _ _ (by first | omega | (simp; done) | (simp; omega))]; go_simp); clear hc_w1 hf_w1 hb_w1)
  go_ret
  exact ⟨rfl, hB1⟩
end Go.Proofs.Ytijfldgkmbhdoaa
