/- Contracts of package output: Check at a place, Check's yes, Interval. -/
import Derived.Test.YtijfldgkmbhdoaaOut
import Derived.Deep.RegionWith
set_option linter.unusedVariables false
set_option linter.unusedSimpArgs false
namespace Go.Proofs.Ytijfldgkmbhdoaa
open Go.RowKit
attribute [local go_sem ↓] Go.wp_at_zero Go.wp_at_succ

set_option maxRecDepth 100000 in
set_option maxHeartbeats 4000000 in
theorem ocheck_plc (nm : ByteArray) (wd ht rf sc tr x y : Int) (w : World) (ha : argOk nm sc tr) (hr : rngOk wd ht rf sc) (h : plcBad wd ht sc tr x y) :
    Calls Try.prog 39 #[outv nm wd ht rf sc tr x y] w fun e w' => e = .returned (.int .i64 6) ∧ Below w.heap.size w w' := by
  obtain ⟨h0, h1, h2, hs⟩ := ha
  obtain ⟨b1, b2, b3, b4⟩ := hr
  unfold plcBad at h
  have s1 : 1 ≤ shw tr wd ht ∧ shw tr wd ht ≤ 256 := by have := b1.1; have := b1.2.1; have := b2.1; have := b2.2.1; unfold shw; split <;> omega
  have s2 : 1 ≤ shw tr ht wd ∧ shw tr ht wd ≤ 256 := by have := b1.1; have := b1.2.1; have := b2.1; have := b2.2.1; unfold shw; split <;> omega
  have d1 : 0 ≤ shw tr wd ht / sc ∧ shw tr wd ht / sc ≤ 256 := ⟨Int.ediv_nonneg (by omega) (by omega), Int.le_trans (Int.ediv_le_self _ (by omega)) s1.2⟩
  have d2 : 0 ≤ shw tr ht wd / sc ∧ shw tr ht wd / sc ≤ 256 := ⟨Int.ediv_nonneg (by omega) (by omega), Int.le_trans (Int.ediv_le_self _ (by omega)) s2.2⟩
  rcases h with c1 | ⟨c1, c2⟩ | ⟨c1, c2, c3⟩
  · clear s1 s2 d1 d2
    go_enter Try.func39, Try.ntmps39
    go_wp2_with (first | (go_at_call 56; refine (tvalid_yes _ _ ?_).mono ?_; omega; rintro e w' ⟨rfl, rfl⟩) | (go_at_call 54; refine (ocheck1_yes _ sc _ _ hs ?_ ?_).mono ?_; go_simp; with_reducible assumption; rintro e w' ⟨rfl, rfl⟩) | (go_at_call 55; refine (ocheck2_no _ _ c1).mono ?_; rintro e w' ⟨rfl, rfl⟩))
    go_ret
    exact ⟨rfl, by (with_reducible repeat (first | assumption | exact Below.refl _ _ | refine Below.setCell ?_ (by first | omega | (simp; done) | (simp; omega)) _ | refine Below.drew ?_ | refine bdrewN ?_ _ | refine Below.alloc ?_ (by first | omega | (simp; done) | (simp; omega)) _))⟩
  · clear s1 s2 d1 d2
    go_enter Try.func39, Try.ntmps39
    go_wp2_with (first | (go_at_call 56; refine (tvalid_yes _ _ ?_).mono ?_; omega; rintro e w' ⟨rfl, rfl⟩) | (go_at_call 54; refine (ocheck1_yes _ sc _ _ hs ?_ ?_).mono ?_; go_simp; with_reducible assumption; rintro e w' ⟨rfl, rfl⟩) | (go_at_call_of 55 x; refine (ocheck2_yes _ _ c1).mono ?_; rintro e w' ⟨rfl, rfl⟩) | (go_at_call_of 55 y; refine (ocheck2_no _ _ c2).mono ?_; rintro e w' ⟨rfl, rfl⟩))
    go_ret
    exact ⟨rfl, by (with_reducible repeat (first | assumption | exact Below.refl _ _ | refine Below.setCell ?_ (by first | omega | (simp; done) | (simp; omega)) _ | refine Below.drew ?_ | refine bdrewN ?_ _ | refine Below.alloc ?_ (by first | omega | (simp; done) | (simp; omega)) _))⟩
  · have c3' : ((x + shw tr wd ht / sc < -16384 ∨ 16384 < x + shw tr wd ht / sc) ∨ ((-16384 ≤ x + shw tr wd ht / sc ∧ x + shw tr wd ht / sc ≤ 16384) ∧ (y + shw tr ht wd / sc < -16384 ∨ 16384 < y + shw tr ht wd / sc))) := by
      have := c1.1; have := c2.1
      omega
    clear c3 s1 s2 d1 d2
    have OL := fun W => ological_any nm wd ht rf sc tr x y W hs h2 ⟨b1.1, b1.2.1⟩ ⟨b2.1, b2.2.1⟩ c1 c2
    generalize x + shw tr wd ht / sc = X1 at *
    generalize y + shw tr ht wd / sc = Y1 at *
    have HOL := Lib.hid OL
    clear OL
    have C3 := Lib.hid c3'
    clear c3'
    go_enter Try.func39, Try.ntmps39
    go_wp2_with (first | (go_at_call 56; refine (tvalid_yes _ _ ?_).mono ?_; omega; rintro e w' ⟨rfl, rfl⟩) | (go_at_call 54; refine (ocheck1_yes _ sc _ _ hs ?_ ?_).mono ?_; go_simp; with_reducible assumption; rintro e w' ⟨rfl, rfl⟩) | (go_at_call_of 55 x; refine (ocheck2_yes _ _ c1).mono ?_; rintro e w' ⟨rfl, rfl⟩) | (go_at_call_of 55 y; refine (ocheck2_yes _ _ c2).mono ?_; rintro e w' ⟨rfl, rfl⟩) | (go_at_call 58; refine (HOL.out _).mono ?_; rintro e w1 ⟨rfl, hb1⟩; have hB : Below w.heap.size w w1 := bon (by (with_reducible repeat (first | assumption | exact Below.refl _ _ | refine Below.setCell ?_ (by first | omega | (simp; done) | (simp; omega)) _ | refine Below.drew ?_ | refine bdrewN ?_ _ | refine Below.alloc ?_ (by first | omega | (simp; done) | (simp; omega)) _))) (by simp) hb1; clear hb1) | (go_at_call 57; refine (rvalid_no _ _ _ _ _ c1 c2 C3.out).mono ?_; rintro e w2 ⟨rfl, hb2⟩; replace hB := bon hB hB.size hb2))
    go_ret
    exact ⟨rfl, hB⟩

set_option maxRecDepth 100000 in
set_option maxHeartbeats 4000000 in
theorem ocheck_ok (nm : ByteArray) (wd ht rf sc tr x y : Int) (w : World) (ha : argOk nm sc tr) (hr : rngOk wd ht rf sc) (h : plcOk wd ht sc tr x y) :
    Calls Try.prog 39 #[outv nm wd ht rf sc tr x y] w fun e w' => e = .returned (.int .i64 0) ∧ Below w.heap.size w w' := by
  obtain ⟨h0, h1, h2, hs⟩ := ha
  obtain ⟨b1, b2, b3, b4⟩ := hr
  obtain ⟨c1, c2, c3, c4⟩ := h
  have s1 : 1 ≤ shw tr wd ht ∧ shw tr wd ht ≤ 256 := by have := b1.1; have := b1.2.1; have := b2.1; have := b2.2.1; unfold shw; split <;> omega
  have s2 : 1 ≤ shw tr ht wd ∧ shw tr ht wd ≤ 256 := by have := b1.1; have := b1.2.1; have := b2.1; have := b2.2.1; unfold shw; split <;> omega
  have d1 : 0 ≤ shw tr wd ht / sc ∧ shw tr wd ht / sc ≤ 256 := ⟨Int.ediv_nonneg (by omega) (by omega), Int.le_trans (Int.ediv_le_self _ (by omega)) s1.2⟩
  have d2 : 0 ≤ shw tr ht wd / sc ∧ shw tr ht wd / sc ≤ 256 := ⟨Int.ediv_nonneg (by omega) (by omega), Int.le_trans (Int.ediv_le_self _ (by omega)) s2.2⟩
  have e1 : -16384 ≤ x + shw tr wd ht / sc ∧ x + shw tr wd ht / sc ≤ 16384 := by have := c1.1; omega
  have e2 : -16384 ≤ y + shw tr ht wd / sc ∧ y + shw tr ht wd / sc ≤ 16384 := by have := c2.1; omega
  clear c3 c4 s1 s2 d1 d2
  have OL := fun W => ological_any nm wd ht rf sc tr x y W hs h2 ⟨b1.1, b1.2.1⟩ ⟨b2.1, b2.2.1⟩ c1 c2
  generalize x + shw tr wd ht / sc = X1 at *
  generalize y + shw tr ht wd / sc = Y1 at *
  have HOL := Lib.hid OL
  clear OL
  have E1 := Lib.hid e1
  have E2 := Lib.hid e2
  clear e1 e2
  go_enter Try.func39, Try.ntmps39
  go_wp2_with (first | (go_at_call 56; refine (tvalid_yes _ _ ?_).mono ?_; omega; rintro e w' ⟨rfl, rfl⟩) | (go_at_call 54; refine (ocheck1_yes _ sc _ _ hs ?_ ?_).mono ?_; go_simp; with_reducible assumption; rintro e w' ⟨rfl, rfl⟩) | (go_at_call_of 55 x; refine (ocheck2_yes _ _ c1).mono ?_; rintro e w' ⟨rfl, rfl⟩) | (go_at_call_of 55 y; refine (ocheck2_yes _ _ c2).mono ?_; rintro e w' ⟨rfl, rfl⟩) | (go_at_call 58; refine (HOL.out _).mono ?_; rintro e w1 ⟨rfl, hb1⟩; have hB : Below w.heap.size w w1 := bon (by (with_reducible repeat (first | assumption | exact Below.refl _ _ | refine Below.setCell ?_ (by first | omega | (simp; done) | (simp; omega)) _ | refine Below.drew ?_ | refine bdrewN ?_ _ | refine Below.alloc ?_ (by first | omega | (simp; done) | (simp; omega)) _))) (by simp) hb1; clear hb1) | (go_at_call 57; refine (rvalid_yes _ _ _ _ _ c1 c2 E1.out E2.out).mono ?_; rintro e w2 ⟨rfl, hb2⟩; replace hB := bon hB hB.size hb2))
  go_ret
  exact ⟨rfl, hB⟩

/-- What Check answers. -/
def chkIs (nm : ByteArray) (wd ht rf sc tr x y : Int) (e : Int) : Prop :=
  (argBad nm sc tr ∧ e = 2) ∨ (argOk nm sc tr ∧ rngBad wd ht rf sc ∧ e = 6) ∨ (argOk nm sc tr ∧ rngOk wd ht rf sc ∧ plcBad wd ht sc tr x y ∧ e = 6) ∨ (argOk nm sc tr ∧ rngOk wd ht rf sc ∧ plcOk wd ht sc tr x y ∧ e = 0)
theorem chk_total (nm : ByteArray) (wd ht rf sc tr x y : Int) : ∃ e, chkIs nm wd ht rf sc tr x y e := by
  have A : argBad nm sc tr ∨ argOk nm sc tr := by
    unfold argBad argOk
    cases h : nm.toList.isEmpty with
    | true => exact .inl (.inl rfl)
    | false =>
      by_cases h1 : 32 < nm.size
      · exact .inl (.inr (.inl ⟨rfl, h1⟩))
      · by_cases h2 : tr < 0
        · exact .inl (.inr (.inr (.inl ⟨rfl, by omega, h2⟩)))
        · by_cases h3 : 8 ≤ tr
          · exact .inl (.inr (.inr (.inr (.inl ⟨rfl, by omega, h3⟩))))
          · by_cases h4 : sc < 1
            · exact .inl (.inr (.inr (.inr (.inr (.inl ⟨rfl, by omega, by omega, h4⟩)))))
            · by_cases h5 : 4 < sc
              · exact .inl (.inr (.inr (.inr (.inr (.inr ⟨rfl, by omega, by omega, h5⟩)))))
              · exact .inr ⟨rfl, by omega, by omega, by omega⟩
  have sz : ∀ n, sizeBad n sc ∨ sizeOk n sc := by
    intro n
    unfold sizeBad sizeOk
    by_cases h1 : n < 1
    · exact .inl (.inl h1)
    · by_cases h2 : 256 < n
      · exact .inl (.inr (.inl h2))
      · by_cases h3 : n % sc = 0
        · exact .inr ⟨by omega, by omega, h3⟩
        · exact .inl (.inr (.inr ⟨by omega, by omega, h3⟩))
  have R : rngBad wd ht rf sc ∨ rngOk wd ht rf sc := by
    unfold rngBad rngOk
    rcases sz wd with h1 | h1
    · exact .inl (.inl h1)
    · rcases sz ht with h2 | h2
      · exact .inl (.inr (.inl ⟨h1, h2⟩))
      · by_cases h3 : rf < 1000
        · exact .inl (.inr (.inr (.inl ⟨h1, h2, h3⟩)))
        · by_cases h4 : 240000 < rf
          · exact .inl (.inr (.inr (.inr ⟨h1, h2, h4⟩)))
          · exact .inr ⟨h1, h2, by omega, by omega⟩
  have P : plcBad wd ht sc tr x y ∨ plcOk wd ht sc tr x y := by
    unfold plcBad plcOk inC outC
    omega
  rcases A with A | A
  · exact ⟨2, .inl ⟨A, rfl⟩⟩
  · rcases R with R | R
    · exact ⟨6, .inr (.inl ⟨A, R, rfl⟩)⟩
    · rcases P with P | P
      · exact ⟨6, .inr (.inr (.inl ⟨A, R, P, rfl⟩))⟩
      · exact ⟨0, .inr (.inr (.inr ⟨A, R, P, rfl⟩))⟩
theorem chk_rng {nm : ByteArray} {wd ht rf sc tr x y e : Int} (h : chkIs nm wd ht rf sc tr x y e) : e = 0 ∨ e = 2 ∨ e = 6 := by
  rcases h with ⟨_, h⟩ | ⟨_, _, h⟩ | ⟨_, _, _, h⟩ | ⟨_, _, _, h⟩
  · exact .inr (.inl h)
  · exact .inr (.inr h)
  · exact .inr (.inr h)
  · exact .inl h
theorem chk_zero {nm : ByteArray} {wd ht rf sc tr x y : Int} (h : chkIs nm wd ht rf sc tr x y 0) : argOk nm sc tr ∧ rngOk wd ht rf sc ∧ plcOk wd ht sc tr x y := by
  rcases h with ⟨_, h⟩ | ⟨_, _, h⟩ | ⟨_, _, _, h⟩ | ⟨h1, h2, h3, _⟩
  · omega
  · omega
  · omega
  · exact ⟨h1, h2, h3⟩

theorem ocheck_any (nm : ByteArray) (wd ht rf sc tr x y e : Int) (w : World) (hsz : nm.size ≤ 9223372036854775807) (h : chkIs nm wd ht rf sc tr x y e) :
    Calls Try.prog 39 #[outv nm wd ht rf sc tr x y] w fun v w' => v = .returned (.int .i64 e) ∧ Below w.heap.size w w' := by
  rcases h with ⟨h, rfl⟩ | ⟨h1, h2, rfl⟩ | ⟨h1, h2, h3, rfl⟩ | ⟨h1, h2, h3, rfl⟩
  · exact ocheck_arg _ _ _ _ _ _ _ _ w hsz h
  · exact ocheck_rng _ _ _ _ _ _ _ _ w h1 h2
  · exact ocheck_plc _ _ _ _ _ _ _ _ w h1 h2 h3
  · exact ocheck_ok _ _ _ _ _ _ _ _ w h1 h2 h3

/-- The time between two frames. -/
def ivl (rf : Int) : Int := (2000000000000 + rf) / (2 * rf)
theorem ivl_rng {rf : Int} (h : 1000 ≤ rf ∧ rf ≤ 240000) : 1 ≤ ivl rf ∧ ivl rf ≤ 1000000000 := by
  unfold ivl
  constructor
  · exact (Int.le_ediv_iff_mul_le (by omega)).2 (by omega)
  · have : (2000000000000 + rf) / (2 * rf) < 1000000001 := Int.ediv_lt_of_lt_mul (by omega) (by omega)
    omega
set_option maxHeartbeats 1000000 in
theorem ointerval_ok (nm : ByteArray) (wd ht rf sc tr x y : Int) (w : World) (ha : argOk nm sc tr) (hr : rngOk wd ht rf sc) (h : plcOk wd ht sc tr x y) :
    Calls Try.prog 40 #[outv nm wd ht rf sc tr x y] w fun v w' => v = .returned (.int .i64 (ivl rf)) ∧ Below w.heap.size w w' := by
  have r1 := hr.2.2.1
  have r2 := hr.2.2.2
  go_enter Try.func40, Try.ntmps40
  go_wp2_with (go_at_call 39; refine (ocheck_ok _ _ _ _ _ _ _ _ _ ha hr h).mono ?_; rintro e w1 ⟨rfl, hb_w1⟩; obtain ⟨hc_w1, hf_w1⟩ := bcell hb_w1; have hz1 := hb_w1.size; simp at hz1; have hB1 : Below w.heap.size w w1 := bon (by (with_reducible repeat (first | assumption | exact Below.refl _ _ | refine Below.setCell ?_ (by first | omega | (simp; done) | (simp; omega)) _ | refine Below.drew ?_ | refine bdrewN ?_ _ | refine Below.alloc ?_ (by first | omega | (simp; done) | (simp; omega)) _))) (by simp) hb_w1; have c3 : w1.cell? ⟨w.heap.size, 3, none⟩ = some (.int .i64 rf) := (by rw [hc_w1 _ _ (by first | omega | (simp; done) | (simp; omega))]; go_simp); clear hc_w1 hf_w1 hb_w1)
  go_ret
  exact ⟨rfl, hB1⟩
end Go.Proofs.Ytijfldgkmbhdoaa
