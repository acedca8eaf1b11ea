/- Contracts of package output: Check and Interval, for every output. -/
import Derived.Test.YtijfldgkmbhdoaaBase
import Derived.Deep.RegionHeld3
import Derived.Deep.DrawnRows
import Derived.Deep.QuietTactic
import Derived.BigQuiet
import Derived.WalkLawsBesides
import Derived.Test.YtijfldgkmbhdoaaTail
set_option linter.unusedVariables false
set_option linter.unusedSimpArgs false
namespace Go.Proofs.Ytijfldgkmbhdoaa
open Go.RowKit
attribute [local go_sem ↓] Go.wp_at_zero Go.wp_at_succ

abbrev outv (nm : ByteArray) (wd ht rf sc tr x y : Int) : Value := .agg #[.string nm, .int .i64 wd, .int .i64 ht, .int .i64 rf, .int .i64 sc, .int .i64 tr, .int .i64 x, .int .i64 y]

def sizeOk (n sc : Int) : Prop := 1 ≤ n ∧ n ≤ 256 ∧ n % sc = 0
def sizeBad (n sc : Int) : Prop := n < 1 ∨ 256 < n ∨ (1 ≤ n ∧ n ≤ 256 ∧ n % sc ≠ 0)
def inC (n : Int) : Prop := -16384 ≤ n ∧ n ≤ 16384
def outC (n : Int) : Prop := n < -16384 ∨ 16384 < n
theorem tvalid_yes (t : Int) (w : World) (h : 0 ≤ t ∧ t < 8) : Calls Try.prog 56 #[.int .i64 t] w fun e w' => e = .returned (.bool true) ∧ w = w' := by
  go_enter Try.func56, Try.ntmps56
  go_wp2
  go_ret
  exact ⟨by first | rfl | (simp; omega), rfl⟩
theorem tvalid_no (t : Int) (w : World) (h : t < 0 ∨ 8 ≤ t) : Calls Try.prog 56 #[.int .i64 t] w fun e w' => e = .returned (.bool false) ∧ w = w' := by
  rcases h with h | h
  · go_enter Try.func56, Try.ntmps56
    go_wp2
    go_ret
    exact ⟨by first | rfl | (simp; omega), rfl⟩
  · go_enter Try.func56, Try.ntmps56
    go_wp2
    go_ret
    exact ⟨by first | rfl | (simp; omega), rfl⟩
theorem rvalid1_yes (t : Int) (w : World) (h : -16384 ≤ t ∧ t ≤ 16384) : Calls Try.prog 60 #[.int .i64 t] w fun e w' => e = .returned (.bool true) ∧ w = w' := by
  go_enter Try.func60, Try.ntmps60
  go_wp2
  go_ret
  exact ⟨by first | rfl | (simp; omega), rfl⟩
theorem rvalid1_no (t : Int) (w : World) (h : t < -16384 ∨ 16384 < t) : Calls Try.prog 60 #[.int .i64 t] w fun e w' => e = .returned (.bool false) ∧ w = w' := by
  rcases h with h | h
  · go_enter Try.func60, Try.ntmps60
    go_wp2
    go_ret
    exact ⟨by first | rfl | (simp; omega), rfl⟩
  · go_enter Try.func60, Try.ntmps60
    go_wp2
    go_ret
    exact ⟨by first | rfl | (simp; omega), rfl⟩
theorem ocheck2_yes (t : Int) (w : World) (h0 : inC t) : Calls Try.prog 55 #[.int .i64 t] w fun e w' => e = .returned (.bool true) ∧ w = w' := by
  have h := h0
  unfold inC at h
  clear h0
  go_enter Try.func55, Try.ntmps55
  go_wp2
  go_ret
  exact ⟨by first | rfl | (simp; omega), rfl⟩
theorem ocheck2_no (t : Int) (w : World) (h : outC t) : Calls Try.prog 55 #[.int .i64 t] w fun e w' => e = .returned (.bool false) ∧ w = w' := by
  rcases h with h | h
  · go_enter Try.func55, Try.ntmps55
    go_wp2
    go_ret
    exact ⟨by first | rfl | (simp; omega), rfl⟩
  · go_enter Try.func55, Try.ntmps55
    go_wp2
    go_ret
    exact ⟨by first | rfl | (simp; omega), rfl⟩
theorem ocheck1_yes (n sc : Int) (b : Nat) (w : World) (hs : 1 ≤ sc ∧ sc ≤ 4) (hc : w.cell? ⟨b, 4, none⟩ = some (.int .i64 sc)) (h : sizeOk n sc) :
    Calls Try.prog 54 #[.int .i64 n, .pointer (some ⟨b, 0, none⟩)] w fun e w' => e = .returned (.bool true) ∧ w = w' := by
  obtain ⟨h1, h2, h3⟩ := h
  have h4 : (n % sc == 0) = true := by simpa using h3
  clear h3
  go_enter Try.func54, Try.ntmps54
  go_wp2
  go_ret
  exact ⟨by first | rfl | (simp; omega), rfl⟩
theorem ocheck1_no (n sc : Int) (b : Nat) (w : World) (hs : 1 ≤ sc ∧ sc ≤ 4) (hc : w.cell? ⟨b, 4, none⟩ = some (.int .i64 sc)) (h : sizeBad n sc) :
    Calls Try.prog 54 #[.int .i64 n, .pointer (some ⟨b, 0, none⟩)] w fun e w' => e = .returned (.bool false) ∧ w = w' := by
  rcases h with h | h | ⟨h1, h2, h3⟩
  · go_enter Try.func54, Try.ntmps54
    go_wp2
    go_ret
    exact ⟨by first | rfl | (simp; omega), rfl⟩
  · go_enter Try.func54, Try.ntmps54
    go_wp2
    go_ret
    exact ⟨by first | rfl | (simp; omega), rfl⟩
  · have h4 : (n % sc == 0) = false := by simpa using h3
    clear h3
    go_enter Try.func54, Try.ntmps54
    go_wp2
    go_ret
    exact ⟨by first | rfl | (simp; omega), rfl⟩
theorem tnormal_any (t : Int) (w : World) (h : 0 ≤ t ∧ t < 8) : Calls Try.prog 63 #[.int .i64 t] w fun e w' => e = .returned (.int .i64 t) ∧ w = w' := by
  go_enter Try.func63, Try.ntmps63
  go_wp2_with (go_at_call 56; refine (tvalid_yes _ _ h).mono ?_; rintro e w' ⟨rfl, rfl⟩)
  go_ret
  exact ⟨by first | rfl | (simp; omega), rfl⟩
theorem tsize_odd (t a b : Int) (w : World) (h : 0 ≤ t ∧ t < 8) (ho : t % 2 = 1) : Calls Try.prog 61 #[.int .i64 t, .int .i64 a, .int .i64 b] w fun e w' => e = .returned (.tuple #[.int .i64 b, .int .i64 a]) ∧ w = w' := by
  have h4 : (t % 2 == 1) = true := by simpa using ho
  clear ho
  go_enter Try.func61, Try.ntmps61
  go_wp2_with (go_at_call 63; refine (tnormal_any _ _ h).mono ?_; rintro e w' ⟨rfl, rfl⟩)
  go_ret2
  exact ⟨by first | rfl | (simp; omega), rfl⟩
theorem tsize_even (t a b : Int) (w : World) (h : 0 ≤ t ∧ t < 8) (ho : t % 2 = 0) : Calls Try.prog 61 #[.int .i64 t, .int .i64 a, .int .i64 b] w fun e w' => e = .returned (.tuple #[.int .i64 a, .int .i64 b]) ∧ w = w' := by
  have h4 : (t % 2 == 1) = false := by simp; omega
  clear ho
  go_enter Try.func61, Try.ntmps61
  go_wp2_with (go_at_call 63; refine (tnormal_any _ _ h).mono ?_; rintro e w' ⟨rfl, rfl⟩)
  go_ret2
  exact ⟨by first | rfl | (simp; omega), rfl⟩
/-- The size of what is shown. -/
def shw (t a b : Int) : Int := if t % 2 = 1 then b else a
theorem tsize_any (t a b : Int) (w : World) (h : 0 ≤ t ∧ t < 8) : Calls Try.prog 61 #[.int .i64 t, .int .i64 a, .int .i64 b] w fun e w' => e = .returned (.tuple #[.int .i64 (shw t a b), .int .i64 (shw t b a)]) ∧ w = w' := by
  unfold shw
  by_cases ho : t % 2 = 1
  · rw [if_pos ho, if_pos ho]; exact tsize_odd t a b w h ho
  · rw [if_neg ho, if_neg ho]; exact tsize_even t a b w h (by omega)
theorem rvalid_yes (x0 y0 x1 y1 : Int) (w : World) (h0 : -16384 ≤ x0 ∧ x0 ≤ 16384) (h1 : -16384 ≤ y0 ∧ y0 ≤ 16384) (h2 : -16384 ≤ x1 ∧ x1 ≤ 16384) (h3 : -16384 ≤ y1 ∧ y1 ≤ 16384) :
    Calls Try.prog 57 #[.agg #[.int .i64 x0, .int .i64 y0, .int .i64 x1, .int .i64 y1]] w fun e w' => e = .returned (.bool true) ∧ Below w.heap.size w w' := by
  go_enter Try.func57, Try.ntmps57
  go_wp2_with (go_at_call 60; refine (rvalid1_yes _ _ (by omega)).mono ?_; rintro e w' ⟨rfl, rfl⟩)
  go_ret
  exact ⟨rfl, by (with_reducible repeat (first | assumption | exact Below.refl _ _ | refine Below.setCell ?_ (by first | omega | (simp; done) | (simp; omega)) _ | refine Below.drew ?_ | refine bdrewN ?_ _ | refine Below.alloc ?_ (by first | omega | (simp; done) | (simp; omega)) _))⟩
/-- The first two hold; one of the others does not. -/
theorem rvalid_no (x0 y0 x1 y1 : Int) (w : World) (h0 : -16384 ≤ x0 ∧ x0 ≤ 16384) (h1 : -16384 ≤ y0 ∧ y0 ≤ 16384) (h : (x1 < -16384 ∨ 16384 < x1) ∨ ((-16384 ≤ x1 ∧ x1 ≤ 16384) ∧ (y1 < -16384 ∨ 16384 < y1))) :
    Calls Try.prog 57 #[.agg #[.int .i64 x0, .int .i64 y0, .int .i64 x1, .int .i64 y1]] w fun e w' => e = .returned (.bool false) ∧ Below w.heap.size w w' := by
  rcases h with h | ⟨h2, h⟩
  · go_enter Try.func57, Try.ntmps57
    go_wp2_with (first | (go_at_call 60; refine (rvalid1_yes _ _ (by omega)).mono ?_; rintro e w' ⟨rfl, rfl⟩) | (go_at_call 60; refine (rvalid1_no _ _ (by omega)).mono ?_; rintro e w' ⟨rfl, rfl⟩))
    go_ret
    exact ⟨rfl, by (with_reducible repeat (first | assumption | exact Below.refl _ _ | refine Below.setCell ?_ (by first | omega | (simp; done) | (simp; omega)) _ | refine Below.drew ?_ | refine bdrewN ?_ _ | refine Below.alloc ?_ (by first | omega | (simp; done) | (simp; omega)) _))⟩
  · go_enter Try.func57, Try.ntmps57
    go_wp2_with (first | (go_at_call 60; refine (rvalid1_yes _ _ (by omega)).mono ?_; rintro e w' ⟨rfl, rfl⟩) | (go_at_call 60; refine (rvalid1_no _ _ (by omega)).mono ?_; rintro e w' ⟨rfl, rfl⟩))
    go_ret
    exact ⟨rfl, by (with_reducible repeat (first | assumption | exact Below.refl _ _ | refine Below.setCell ?_ (by first | omega | (simp; done) | (simp; omega)) _ | refine Below.drew ?_ | refine bdrewN ?_ _ | refine Below.alloc ?_ (by first | omega | (simp; done) | (simp; omega)) _))⟩

/-! ### Check, case by case -/
set_option maxRecDepth 100000 in
theorem ological_any (nm : ByteArray) (wd ht rf sc tr x y : Int) (w : World) (hs : 1 ≤ sc ∧ sc ≤ 4) (ht0 : 0 ≤ tr ∧ tr < 8) (hw : 1 ≤ wd ∧ wd ≤ 256) (hh : 1 ≤ ht ∧ ht ≤ 256) (hx : -16384 ≤ x ∧ x ≤ 16384) (hy : -16384 ≤ y ∧ y ≤ 16384) :
    Calls Try.prog 58 #[outv nm wd ht rf sc tr x y] w fun e w' => e = .returned (.agg #[.int .i64 x, .int .i64 y, .int .i64 (x + shw tr wd ht / sc), .int .i64 (y + shw tr ht wd / sc)]) ∧ Below w.heap.size w w' := by
  have s1 : 1 ≤ shw tr wd ht ∧ shw tr wd ht ≤ 256 := by unfold shw; split <;> omega
  have s2 : 1 ≤ shw tr ht wd ∧ shw tr ht wd ≤ 256 := by unfold shw; split <;> omega
  have d1 : 0 ≤ shw tr wd ht / sc ∧ shw tr wd ht / sc ≤ 256 := ⟨Int.ediv_nonneg (by omega) (by omega), Int.le_trans (Int.ediv_le_self _ (by omega)) s1.2⟩
  have d2 : 0 ≤ shw tr ht wd / sc ∧ shw tr ht wd / sc ≤ 256 := ⟨Int.ediv_nonneg (by omega) (by omega), Int.le_trans (Int.ediv_le_self _ (by omega)) s2.2⟩
  go_enter Try.func58, Try.ntmps58
  go_wp2_with (go_at_call 61; refine (tsize_any _ _ _ _ ht0).mono ?_; rintro e w' ⟨rfl, rfl⟩)
  (refine wp_region_quiet_tail_drew 19 (by kernel_rfl) (by kernel_rfl) ?_; simp only [List.take_succ_cons, List.take_zero, List.drop_succ_cons, List.drop_zero]; (repeat (go_big_quiet_step (fail))); refine wpQuiet_nil ?_; intro _ hw'; obtain ⟨nq, hw''⟩ := hw'; subst hw'')
  go_wp2
  refine bodyPost_ret (v := .agg #[.int .i64 x, .int .i64 y, .int .i64 (x + shw tr wd ht / sc), .int .i64 (y + shw tr ht wd / sc)]) (by simp [results, Try.results58, go_sem]) rfl ⟨rfl, ?_⟩
  (with_reducible repeat (first | assumption | exact Below.refl _ _ | refine Below.setCell ?_ (by first | omega | (simp; done) | (simp; omega)) _ | refine Below.drew ?_ | refine bdrewN ?_ _ | refine Below.alloc ?_ (by first | omega | (simp; done) | (simp; omega)) _))

/-- What Check's first test asks. -/
def argOk (nm : ByteArray) (sc tr : Int) : Prop := nm.toList.isEmpty = false ∧ nm.size ≤ 32 ∧ (0 ≤ tr ∧ tr < 8) ∧ (1 ≤ sc ∧ sc ≤ 4)
def argBad (nm : ByteArray) (sc tr : Int) : Prop := nm.toList.isEmpty = true ∨ (nm.toList.isEmpty = false ∧ 32 < nm.size) ∨ (nm.toList.isEmpty = false ∧ nm.size ≤ 32 ∧ tr < 0) ∨ (nm.toList.isEmpty = false ∧ nm.size ≤ 32 ∧ 8 ≤ tr) ∨
  (nm.toList.isEmpty = false ∧ nm.size ≤ 32 ∧ (0 ≤ tr ∧ tr < 8) ∧ sc < 1) ∨ (nm.toList.isEmpty = false ∧ nm.size ≤ 32 ∧ (0 ≤ tr ∧ tr < 8) ∧ 4 < sc)
def rngOk (wd ht rf sc : Int) : Prop := sizeOk wd sc ∧ sizeOk ht sc ∧ 1000 ≤ rf ∧ rf ≤ 240000
def rngBad (wd ht rf sc : Int) : Prop := sizeBad wd sc ∨ (sizeOk wd sc ∧ sizeBad ht sc) ∨ (sizeOk wd sc ∧ sizeOk ht sc ∧ rf < 1000) ∨ (sizeOk wd sc ∧ sizeOk ht sc ∧ 240000 < rf)
def plcOk (wd ht sc tr x y : Int) : Prop := inC x ∧ inC y ∧ x + shw tr wd ht / sc ≤ 16384 ∧ y + shw tr ht wd / sc ≤ 16384
def plcBad (wd ht sc tr x y : Int) : Prop := outC x ∨ (inC x ∧ outC y) ∨ (inC x ∧ inC y ∧ (16384 < x + shw tr wd ht / sc ∨ (x + shw tr wd ht / sc ≤ 16384 ∧ 16384 < y + shw tr ht wd / sc)))

set_option maxRecDepth 100000 in
set_option maxHeartbeats 2000000 in
theorem ocheck_arg (nm : ByteArray) (wd ht rf sc tr x y : Int) (w : World) (hsz : nm.size ≤ 9223372036854775807) (h : argBad nm sc tr) :
    Calls Try.prog 39 #[outv nm wd ht rf sc tr x y] w fun e w' => e = .returned (.int .i64 2) ∧ Below w.heap.size w w' := by
  unfold argBad at h
  rcases h with h0 | ⟨h0, h1⟩ | ⟨h0, h1, h2⟩ | ⟨h0, h1, h2⟩ | ⟨h0, h1, h2, h3⟩ | ⟨h0, h1, h2, h3⟩
  all_goals
    go_enter Try.func39, Try.ntmps39
    go_wp2_with (first | (go_at_call 56; refine (tvalid_yes _ _ (by omega)).mono ?_; rintro e w' ⟨rfl, rfl⟩) | (go_at_call 56; refine (tvalid_no _ _ (by omega)).mono ?_; rintro e w' ⟨rfl, rfl⟩))
    go_ret
    exact ⟨rfl, by (with_reducible repeat (first | assumption | exact Below.refl _ _ | refine Below.setCell ?_ (by first | omega | (simp; done) | (simp; omega)) _ | refine Below.drew ?_ | refine bdrewN ?_ _ | refine Below.alloc ?_ (by first | omega | (simp; done) | (simp; omega)) _))⟩

set_option maxRecDepth 100000 in
set_option maxHeartbeats 4000000 in
theorem ocheck_rng (nm : ByteArray) (wd ht rf sc tr x y : Int) (w : World) (ha : argOk nm sc tr) (h : rngBad wd ht rf sc) :
    Calls Try.prog 39 #[outv nm wd ht rf sc tr x y] w fun e w' => e = .returned (.int .i64 6) ∧ Below w.heap.size w w' := by
  obtain ⟨h0, h1, h2, hs⟩ := ha
  unfold rngBad at h
  rcases h with b1 | ⟨b1, b2⟩ | ⟨b1, b2, b3⟩ | ⟨b1, b2, b3⟩
  all_goals
    go_enter Try.func39, Try.ntmps39
    go_wp2_with (first | (go_at_call 56; refine (tvalid_yes _ _ (by omega)).mono ?_; rintro e w' ⟨rfl, rfl⟩) | (go_at_call 54; refine (ocheck1_yes _ sc _ _ hs (by go_simp) (by with_reducible assumption)).mono ?_; rintro e w' ⟨rfl, rfl⟩) | (go_at_call 54; refine (ocheck1_no _ sc _ _ hs (by go_simp) (by with_reducible assumption)).mono ?_; rintro e w' ⟨rfl, rfl⟩))
    go_ret
    exact ⟨rfl, by (with_reducible repeat (first | assumption | exact Below.refl _ _ | refine Below.setCell ?_ (by first | omega | (simp; done) | (simp; omega)) _ | refine Below.drew ?_ | refine bdrewN ?_ _ | refine Below.alloc ?_ (by first | omega | (simp; done) | (simp; omega)) _))⟩
end Go.Proofs.Ytijfldgkmbhdoaa
