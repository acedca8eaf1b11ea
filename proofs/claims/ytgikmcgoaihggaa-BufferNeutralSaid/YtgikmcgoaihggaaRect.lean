/- Rectangles. -/
import Derived.Test.YtgikmcgoaihggaaBDiff
set_option linter.unusedVariables false
set_option linter.unusedSimpArgs false
namespace Go.Proofs.Ytgikmcgoaihggaa
open Go.RowKit Go.Sort
attribute [local go_sem ↓] Go.wp_at_zero Go.wp_at_succ
attribute [local go_sem] calm calmAt calmUpon

def crd (n : Int) : Prop := -16384 ≤ n ∧ n ≤ 16384
def crdB (n : Int) : Bool := decide (-16384 ≤ n ∧ n ≤ 16384)
theorem crdB_yes {n : Int} (h : crd n) : crdB n = true := decide_eq_true h
theorem crdB_no {n : Int} (h : ¬ crd n) : crdB n = false := decide_eq_false h
def rokB (r : Rc) : Bool := crdB r.x0 && crdB r.y0 && crdB r.x1 && crdB r.y1
def emB (r : Rc) : Bool := !(rokB r && decide (r.x0 < r.x1) && decide (r.y0 < r.y1))
theorem emB_iff (r : Rc) : emB r = false ↔ (crd r.x0 ∧ crd r.y0 ∧ crd r.x1 ∧ crd r.y1) ∧ r.x0 < r.x1 ∧ r.y0 < r.y1 := by
  unfold emB rokB crdB crd
  rw [Bool.not_eq_false', Bool.and_eq_true, Bool.and_eq_true, Bool.and_eq_true, Bool.and_eq_true, Bool.and_eq_true, decide_eq_true_iff, decide_eq_true_iff, decide_eq_true_iff, decide_eq_true_iff, decide_eq_true_iff, decide_eq_true_iff, and_assoc, and_assoc, and_assoc, and_assoc]
  constructor
  · rintro ⟨a, b, c, d, e, f⟩; exact ⟨⟨a, b, c, d⟩, e, f⟩
  · rintro ⟨⟨a, b, c, d⟩, e, f⟩; exact ⟨a, b, c, d, e, f⟩
def canR (r : Rc) : Rc := if emB r = true then ⟨0, 0, 0, 0⟩ else r
def interR (a b : Rc) : Rc := canR ⟨max a.x0 b.x0, max a.y0 b.y0, min a.x1 b.x1, min a.y1 b.y1⟩
theorem inter_frame {a : Rc} {W H : Int} (ha : emB a = false) (hW : 1 ≤ W ∧ W ≤ 256) (hH : 1 ≤ H ∧ H ≤ 256) : a = interR a ⟨0, 0, W, H⟩ ↔ 0 ≤ a.x0 ∧ 0 ≤ a.y0 ∧ a.x1 ≤ W ∧ a.y1 ≤ H := by
  obtain ⟨⟨c0, c1, c2, c3⟩, h1, h2⟩ := (emB_iff a).1 ha
  obtain ⟨x0, y0, x1, y1⟩ := a
  simp only [crd] at c0 c1 c2 c3 h1 h2
  unfold interR canR
  simp only
  constructor
  · intro h
    split at h
    · simp only [Rc.mk.injEq] at h; omega
    · simp only [Rc.mk.injEq] at h; omega
  · intro h
    have e : (⟨max x0 0, max y0 0, min x1 W, min y1 H⟩ : Rc) = ⟨x0, y0, x1, y1⟩ := by simp only [Rc.mk.injEq]; omega
    rw [e, ha]
    rfl
theorem rvalid1_any (n : Int) (w : World) : Calls Try.prog 74 #[.int .i64 n] w fun e w' => e = .returned (.bool (crdB n)) ∧ w = w' := by
  by_cases h1 : -16384 ≤ n
  · by_cases h2 : n ≤ 16384
    · rw [crdB_yes ⟨h1, h2⟩]
      go_enter Try.func74, Try.ntmps74
      go_wp2
      go_ret
      exact ⟨rfl, rfl⟩
    · rw [crdB_no (fun k => h2 k.2)]
      go_enter Try.func74, Try.ntmps74
      go_wp2
      go_ret
      exact ⟨rfl, rfl⟩
  · rw [crdB_no (fun k => h1 k.1)]
    go_enter Try.func74, Try.ntmps74
    go_wp2
    go_ret
    exact ⟨rfl, rfl⟩
set_option maxHeartbeats 1000000 in
theorem rvalid_any (r : Rc) (w : World) : Calls Try.prog 66 #[rcv r] w fun e w' => e = .returned (.bool (rokB r)) ∧ Below w.heap.size w w' := by
  obtain ⟨x0, y0, x1, y1⟩ := r
  have e : rokB ⟨x0, y0, x1, y1⟩ = (crdB x0 && crdB y0 && crdB x1 && crdB y1) := rfl
  rw [e]
  clear e
  have hc0 := fun W => rvalid1_any x0 W
  have hc1 := fun W => rvalid1_any y0 W
  have hc2 := fun W => rvalid1_any x1 W
  have hc3 := fun W => rvalid1_any y1 W
  cases k0 : crdB x0 with
  | false =>
    rw [k0] at hc0
    have HC0 := Lib.hid hc0
    clear hc0 hc1 hc2 hc3 k0
    simp only [Bool.false_and, Bool.and_false, Bool.true_and]
    go_enter Try.func66, Try.ntmps66
    go_wp2_with fail
    refine (HC0.out _).mono ?_; rintro e w' ⟨rfl, rfl⟩
    go_wp2_with fail
    go_ret
    exact ⟨rfl, by (with_reducible repeat (first | assumption | exact Below.refl _ _ | refine Below.setCell ?_ (by first | omega | (simp; done) | (simp; omega)) _ | refine Below.drew ?_ | refine bdrewN ?_ _ | refine Below.alloc ?_ (by first | omega | (simp; done) | (simp; omega)) _))⟩
  | true =>
    rw [k0] at hc0
    have HC0 := Lib.hid hc0
    clear hc0
    cases k1 : crdB y0 with
    | false =>
      rw [k1] at hc1
      have HC1 := Lib.hid hc1
      clear hc1 hc2 hc3 k0 k1
      simp only [Bool.false_and, Bool.and_false, Bool.true_and]
      go_enter Try.func66, Try.ntmps66
      go_wp2_with fail
      refine (HC0.out _).mono ?_; rintro e w' ⟨rfl, rfl⟩
      go_wp2_with fail
      refine (HC1.out _).mono ?_; rintro e w' ⟨rfl, rfl⟩
      go_wp2_with fail
      go_ret
      exact ⟨rfl, by (with_reducible repeat (first | assumption | exact Below.refl _ _ | refine Below.setCell ?_ (by first | omega | (simp; done) | (simp; omega)) _ | refine Below.drew ?_ | refine bdrewN ?_ _ | refine Below.alloc ?_ (by first | omega | (simp; done) | (simp; omega)) _))⟩
    | true =>
      rw [k1] at hc1
      have HC1 := Lib.hid hc1
      clear hc1
      cases k2 : crdB x1 with
      | false =>
        rw [k2] at hc2
        have HC2 := Lib.hid hc2
        clear hc2 hc3 k0 k1 k2
        simp only [Bool.false_and, Bool.and_false, Bool.true_and]
        go_enter Try.func66, Try.ntmps66
        go_wp2_with fail
        refine (HC0.out _).mono ?_; rintro e w' ⟨rfl, rfl⟩
        go_wp2_with fail
        refine (HC1.out _).mono ?_; rintro e w' ⟨rfl, rfl⟩
        go_wp2_with fail
        refine (HC2.out _).mono ?_; rintro e w' ⟨rfl, rfl⟩
        go_wp2_with fail
        go_ret
        exact ⟨rfl, by (with_reducible repeat (first | assumption | exact Below.refl _ _ | refine Below.setCell ?_ (by first | omega | (simp; done) | (simp; omega)) _ | refine Below.drew ?_ | refine bdrewN ?_ _ | refine Below.alloc ?_ (by first | omega | (simp; done) | (simp; omega)) _))⟩
      | true =>
        rw [k2] at hc2
        have HC2 := Lib.hid hc2
        clear hc2
        cases k3 : crdB y1 with
        | false =>
          rw [k3] at hc3
          have HC3 := Lib.hid hc3
          clear hc3 k0 k1 k2 k3
          simp only [Bool.false_and, Bool.and_false, Bool.true_and]
          go_enter Try.func66, Try.ntmps66
          go_wp2_with fail
          refine (HC0.out _).mono ?_; rintro e w' ⟨rfl, rfl⟩
          go_wp2_with fail
          refine (HC1.out _).mono ?_; rintro e w' ⟨rfl, rfl⟩
          go_wp2_with fail
          refine (HC2.out _).mono ?_; rintro e w' ⟨rfl, rfl⟩
          go_wp2_with fail
          refine (HC3.out _).mono ?_; rintro e w' ⟨rfl, rfl⟩
          go_wp2_with fail
          go_ret
          exact ⟨rfl, by (with_reducible repeat (first | assumption | exact Below.refl _ _ | refine Below.setCell ?_ (by first | omega | (simp; done) | (simp; omega)) _ | refine Below.drew ?_ | refine bdrewN ?_ _ | refine Below.alloc ?_ (by first | omega | (simp; done) | (simp; omega)) _))⟩
        | true =>
          rw [k3] at hc3
          have HC3 := Lib.hid hc3
          clear hc3
          clear k0 k1 k2 k3
          simp only [Bool.and_self]
          go_enter Try.func66, Try.ntmps66
          go_wp2_with fail
          refine (HC0.out _).mono ?_; rintro e w' ⟨rfl, rfl⟩
          go_wp2_with fail
          refine (HC1.out _).mono ?_; rintro e w' ⟨rfl, rfl⟩
          go_wp2_with fail
          refine (HC2.out _).mono ?_; rintro e w' ⟨rfl, rfl⟩
          go_wp2_with fail
          refine (HC3.out _).mono ?_; rintro e w' ⟨rfl, rfl⟩
          go_wp2_with fail
          go_ret
          exact ⟨rfl, by (with_reducible repeat (first | assumption | exact Below.refl _ _ | refine Below.setCell ?_ (by first | omega | (simp; done) | (simp; omega)) _ | refine Below.drew ?_ | refine bdrewN ?_ _ | refine Below.alloc ?_ (by first | omega | (simp; done) | (simp; omega)) _))⟩
set_option maxHeartbeats 1000000 in
theorem rempty_any (r : Rc) (w : World) : Calls Try.prog 55 #[rcv r] w fun e w' => e = .returned (.bool (emB r)) ∧ Below w.heap.size w w' := by
  obtain ⟨x0, y0, x1, y1⟩ := r
  have e : emB ⟨x0, y0, x1, y1⟩ = !(rokB ⟨x0, y0, x1, y1⟩ && decide (x0 < x1) && decide (y0 < y1)) := rfl
  rw [e]
  clear e
  have hc := fun W => rvalid_any ⟨x0, y0, x1, y1⟩ W
  cases k : rokB ⟨x0, y0, x1, y1⟩ with
  | false =>
    rw [k] at hc
    have HC := Lib.hid hc
    clear hc k
    simp only [Bool.false_and, Bool.not_false]
    go_enter Try.func55, Try.ntmps55
    go_wp2_with fail
    refine (HC.out _).mono ?_; rintro e w2 ⟨rfl, hb_w2⟩
    have hB : Below w.heap.size w w2 := bon (by (with_reducible repeat (first | assumption | exact Below.refl _ _ | refine Below.setCell ?_ (by first | omega | (simp; done) | (simp; omega)) _ | refine Below.drew ?_ | refine bdrewN ?_ _ | refine Below.alloc ?_ (by first | omega | (simp; done) | (simp; omega)) _))) (by simp) hb_w2
    have K : Blk w2 (w.heap.size) 47 #[.int .i64 x0, .int .i64 y0, .int .i64 x1, .int .i64 y1] := Blk.below hb_w2 (by (with_reducible repeat (first | assumption | (refine Blk.newAt ?_; first | rfl | (simp; done)) | refine Blk.alloc ?_ _ | refine Blk.drew ?_ | refine Blk.other ?_ (by simp) _)))
    obtain ⟨⟨d0, _⟩, ⟨d1, _⟩, ⟨d2, _⟩, d3, _⟩ := K.c4
    clear hb_w2 K
    go_wp2_with fail
    go_ret
    exact ⟨by first | rfl | (simp; omega), hB⟩
  | true =>
    rw [k] at hc
    have HC := Lib.hid hc
    clear hc k
    by_cases h1 : x0 < x1
    · rw [decide_eq_true h1]
      by_cases h2 : y0 < y1
      · rw [decide_eq_true h2]
        simp only [Bool.and_self, Bool.not_true]
        go_enter Try.func55, Try.ntmps55
        go_wp2_with fail
        refine (HC.out _).mono ?_; rintro e w2 ⟨rfl, hb_w2⟩
        have hB : Below w.heap.size w w2 := bon (by (with_reducible repeat (first | assumption | exact Below.refl _ _ | refine Below.setCell ?_ (by first | omega | (simp; done) | (simp; omega)) _ | refine Below.drew ?_ | refine bdrewN ?_ _ | refine Below.alloc ?_ (by first | omega | (simp; done) | (simp; omega)) _))) (by simp) hb_w2
        have K : Blk w2 (w.heap.size) 47 #[.int .i64 x0, .int .i64 y0, .int .i64 x1, .int .i64 y1] := Blk.below hb_w2 (by (with_reducible repeat (first | assumption | (refine Blk.newAt ?_; first | rfl | (simp; done)) | refine Blk.alloc ?_ _ | refine Blk.drew ?_ | refine Blk.other ?_ (by simp) _)))
        obtain ⟨⟨d0, _⟩, ⟨d1, _⟩, ⟨d2, _⟩, d3, _⟩ := K.c4
        clear hb_w2 K
        go_wp2_with fail
        go_ret
        exact ⟨by first | rfl | (simp; omega), hB⟩
      · rw [decide_eq_false h2]
        simp only [Bool.and_self, Bool.and_false, Bool.not_false]
        go_enter Try.func55, Try.ntmps55
        go_wp2_with fail
        refine (HC.out _).mono ?_; rintro e w2 ⟨rfl, hb_w2⟩
        have hB : Below w.heap.size w w2 := bon (by (with_reducible repeat (first | assumption | exact Below.refl _ _ | refine Below.setCell ?_ (by first | omega | (simp; done) | (simp; omega)) _ | refine Below.drew ?_ | refine bdrewN ?_ _ | refine Below.alloc ?_ (by first | omega | (simp; done) | (simp; omega)) _))) (by simp) hb_w2
        have K : Blk w2 (w.heap.size) 47 #[.int .i64 x0, .int .i64 y0, .int .i64 x1, .int .i64 y1] := Blk.below hb_w2 (by (with_reducible repeat (first | assumption | (refine Blk.newAt ?_; first | rfl | (simp; done)) | refine Blk.alloc ?_ _ | refine Blk.drew ?_ | refine Blk.other ?_ (by simp) _)))
        obtain ⟨⟨d0, _⟩, ⟨d1, _⟩, ⟨d2, _⟩, d3, _⟩ := K.c4
        clear hb_w2 K
        go_wp2_with fail
        go_ret
        exact ⟨by first | rfl | (simp; omega), hB⟩
    · rw [decide_eq_false h1]
      simp only [Bool.and_false, Bool.false_and, Bool.not_false]
      go_enter Try.func55, Try.ntmps55
      go_wp2_with fail
      refine (HC.out _).mono ?_; rintro e w2 ⟨rfl, hb_w2⟩
      have hB : Below w.heap.size w w2 := bon (by (with_reducible repeat (first | assumption | exact Below.refl _ _ | refine Below.setCell ?_ (by first | omega | (simp; done) | (simp; omega)) _ | refine Below.drew ?_ | refine bdrewN ?_ _ | refine Below.alloc ?_ (by first | omega | (simp; done) | (simp; omega)) _))) (by simp) hb_w2
      have K : Blk w2 (w.heap.size) 47 #[.int .i64 x0, .int .i64 y0, .int .i64 x1, .int .i64 y1] := Blk.below hb_w2 (by (with_reducible repeat (first | assumption | (refine Blk.newAt ?_; first | rfl | (simp; done)) | refine Blk.alloc ?_ _ | refine Blk.drew ?_ | refine Blk.other ?_ (by simp) _)))
      obtain ⟨⟨d0, _⟩, ⟨d1, _⟩, ⟨d2, _⟩, d3, _⟩ := K.c4
      clear hb_w2 K
      go_wp2_with fail
      go_ret
      exact ⟨by first | rfl | (simp; omega), hB⟩
theorem r4coord_any (n : Int) (w : World) : Calls Try.prog 75 #[.int .i64 n] w fun e w' => e = .returned (.bool (crdB n)) ∧ w = w' := by
  by_cases h1 : -16384 ≤ n
  · by_cases h2 : n ≤ 16384
    · rw [crdB_yes ⟨h1, h2⟩]
      go_enter Try.func75, Try.ntmps75
      go_wp2
      go_ret
      exact ⟨rfl, rfl⟩
    · rw [crdB_no (fun k => h2 k.2)]
      go_enter Try.func75, Try.ntmps75
      go_wp2
      go_ret
      exact ⟨rfl, rfl⟩
  · rw [crdB_no (fun k => h1 k.1)]
    go_enter Try.func75, Try.ntmps75
    go_wp2
    go_ret
    exact ⟨rfl, rfl⟩
set_option maxHeartbeats 1000000 in
theorem r4valid_any (r : Rc) (w : World) : Calls Try.prog 69 #[rcv r] w fun e w' => e = .returned (.bool (rokB r)) ∧ Below w.heap.size w w' := by
  obtain ⟨x0, y0, x1, y1⟩ := r
  have e : rokB ⟨x0, y0, x1, y1⟩ = (crdB x0 && crdB y0 && crdB x1 && crdB y1) := rfl
  rw [e]
  clear e
  have hc0 := fun W => r4coord_any x0 W
  have hc1 := fun W => r4coord_any y0 W
  have hc2 := fun W => r4coord_any x1 W
  have hc3 := fun W => r4coord_any y1 W
  cases k0 : crdB x0 with
  | false =>
    rw [k0] at hc0
    have HC0 := Lib.hid hc0
    clear hc0 hc1 hc2 hc3 k0
    simp only [Bool.false_and, Bool.and_false, Bool.true_and]
    go_enter Try.func69, Try.ntmps69
    go_wp2_with fail
    refine (HC0.out _).mono ?_; rintro e w' ⟨rfl, rfl⟩
    go_wp2_with fail
    go_ret
    exact ⟨rfl, by (with_reducible repeat (first | assumption | exact Below.refl _ _ | refine Below.setCell ?_ (by first | omega | (simp; done) | (simp; omega)) _ | refine Below.drew ?_ | refine bdrewN ?_ _ | refine Below.alloc ?_ (by first | omega | (simp; done) | (simp; omega)) _))⟩
  | true =>
    rw [k0] at hc0
    have HC0 := Lib.hid hc0
    clear hc0
    cases k1 : crdB y0 with
    | false =>
      rw [k1] at hc1
      have HC1 := Lib.hid hc1
      clear hc1 hc2 hc3 k0 k1
      simp only [Bool.false_and, Bool.and_false, Bool.true_and]
      go_enter Try.func69, Try.ntmps69
      go_wp2_with fail
      refine (HC0.out _).mono ?_; rintro e w' ⟨rfl, rfl⟩
      go_wp2_with fail
      refine (HC1.out _).mono ?_; rintro e w' ⟨rfl, rfl⟩
      go_wp2_with fail
      go_ret
      exact ⟨rfl, by (with_reducible repeat (first | assumption | exact Below.refl _ _ | refine Below.setCell ?_ (by first | omega | (simp; done) | (simp; omega)) _ | refine Below.drew ?_ | refine bdrewN ?_ _ | refine Below.alloc ?_ (by first | omega | (simp; done) | (simp; omega)) _))⟩
    | true =>
      rw [k1] at hc1
      have HC1 := Lib.hid hc1
      clear hc1
      cases k2 : crdB x1 with
      | false =>
        rw [k2] at hc2
        have HC2 := Lib.hid hc2
        clear hc2 hc3 k0 k1 k2
        simp only [Bool.false_and, Bool.and_false, Bool.true_and]
        go_enter Try.func69, Try.ntmps69
        go_wp2_with fail
        refine (HC0.out _).mono ?_; rintro e w' ⟨rfl, rfl⟩
        go_wp2_with fail
        refine (HC1.out _).mono ?_; rintro e w' ⟨rfl, rfl⟩
        go_wp2_with fail
        refine (HC2.out _).mono ?_; rintro e w' ⟨rfl, rfl⟩
        go_wp2_with fail
        go_ret
        exact ⟨rfl, by (with_reducible repeat (first | assumption | exact Below.refl _ _ | refine Below.setCell ?_ (by first | omega | (simp; done) | (simp; omega)) _ | refine Below.drew ?_ | refine bdrewN ?_ _ | refine Below.alloc ?_ (by first | omega | (simp; done) | (simp; omega)) _))⟩
      | true =>
        rw [k2] at hc2
        have HC2 := Lib.hid hc2
        clear hc2
        cases k3 : crdB y1 with
        | false =>
          rw [k3] at hc3
          have HC3 := Lib.hid hc3
          clear hc3 k0 k1 k2 k3
          simp only [Bool.false_and, Bool.and_false, Bool.true_and]
          go_enter Try.func69, Try.ntmps69
          go_wp2_with fail
          refine (HC0.out _).mono ?_; rintro e w' ⟨rfl, rfl⟩
          go_wp2_with fail
          refine (HC1.out _).mono ?_; rintro e w' ⟨rfl, rfl⟩
          go_wp2_with fail
          refine (HC2.out _).mono ?_; rintro e w' ⟨rfl, rfl⟩
          go_wp2_with fail
          refine (HC3.out _).mono ?_; rintro e w' ⟨rfl, rfl⟩
          go_wp2_with fail
          go_ret
          exact ⟨rfl, by (with_reducible repeat (first | assumption | exact Below.refl _ _ | refine Below.setCell ?_ (by first | omega | (simp; done) | (simp; omega)) _ | refine Below.drew ?_ | refine bdrewN ?_ _ | refine Below.alloc ?_ (by first | omega | (simp; done) | (simp; omega)) _))⟩
        | true =>
          rw [k3] at hc3
          have HC3 := Lib.hid hc3
          clear hc3
          clear k0 k1 k2 k3
          simp only [Bool.and_self]
          go_enter Try.func69, Try.ntmps69
          go_wp2_with fail
          refine (HC0.out _).mono ?_; rintro e w' ⟨rfl, rfl⟩
          go_wp2_with fail
          refine (HC1.out _).mono ?_; rintro e w' ⟨rfl, rfl⟩
          go_wp2_with fail
          refine (HC2.out _).mono ?_; rintro e w' ⟨rfl, rfl⟩
          go_wp2_with fail
          refine (HC3.out _).mono ?_; rintro e w' ⟨rfl, rfl⟩
          go_wp2_with fail
          go_ret
          exact ⟨rfl, by (with_reducible repeat (first | assumption | exact Below.refl _ _ | refine Below.setCell ?_ (by first | omega | (simp; done) | (simp; omega)) _ | refine Below.drew ?_ | refine bdrewN ?_ _ | refine Below.alloc ?_ (by first | omega | (simp; done) | (simp; omega)) _))⟩
set_option maxHeartbeats 1000000 in
theorem r4empty_any (r : Rc) (w : World) : Calls Try.prog 58 #[rcv r] w fun e w' => e = .returned (.bool (emB r)) ∧ Below w.heap.size w w' := by
  obtain ⟨x0, y0, x1, y1⟩ := r
  have e : emB ⟨x0, y0, x1, y1⟩ = !(rokB ⟨x0, y0, x1, y1⟩ && decide (x0 < x1) && decide (y0 < y1)) := rfl
  rw [e]
  clear e
  have hc := fun W => r4valid_any ⟨x0, y0, x1, y1⟩ W
  cases k : rokB ⟨x0, y0, x1, y1⟩ with
  | false =>
    rw [k] at hc
    have HC := Lib.hid hc
    clear hc k
    simp only [Bool.false_and, Bool.not_false]
    go_enter Try.func58, Try.ntmps58
    go_wp2_with fail
    refine (HC.out _).mono ?_; rintro e w2 ⟨rfl, hb_w2⟩
    have hB : Below w.heap.size w w2 := bon (by (with_reducible repeat (first | assumption | exact Below.refl _ _ | refine Below.setCell ?_ (by first | omega | (simp; done) | (simp; omega)) _ | refine Below.drew ?_ | refine bdrewN ?_ _ | refine Below.alloc ?_ (by first | omega | (simp; done) | (simp; omega)) _))) (by simp) hb_w2
    have K : Blk w2 (w.heap.size) 47 #[.int .i64 x0, .int .i64 y0, .int .i64 x1, .int .i64 y1] := Blk.below hb_w2 (by (with_reducible repeat (first | assumption | (refine Blk.newAt ?_; first | rfl | (simp; done)) | refine Blk.alloc ?_ _ | refine Blk.drew ?_ | refine Blk.other ?_ (by simp) _)))
    obtain ⟨⟨d0, _⟩, ⟨d1, _⟩, ⟨d2, _⟩, d3, _⟩ := K.c4
    clear hb_w2 K
    go_wp2_with fail
    go_ret
    exact ⟨by first | rfl | (simp; omega), hB⟩
  | true =>
    rw [k] at hc
    have HC := Lib.hid hc
    clear hc k
    by_cases h1 : x0 < x1
    · rw [decide_eq_true h1]
      by_cases h2 : y0 < y1
      · rw [decide_eq_true h2]
        simp only [Bool.and_self, Bool.not_true]
        go_enter Try.func58, Try.ntmps58
        go_wp2_with fail
        refine (HC.out _).mono ?_; rintro e w2 ⟨rfl, hb_w2⟩
        have hB : Below w.heap.size w w2 := bon (by (with_reducible repeat (first | assumption | exact Below.refl _ _ | refine Below.setCell ?_ (by first | omega | (simp; done) | (simp; omega)) _ | refine Below.drew ?_ | refine bdrewN ?_ _ | refine Below.alloc ?_ (by first | omega | (simp; done) | (simp; omega)) _))) (by simp) hb_w2
        have K : Blk w2 (w.heap.size) 47 #[.int .i64 x0, .int .i64 y0, .int .i64 x1, .int .i64 y1] := Blk.below hb_w2 (by (with_reducible repeat (first | assumption | (refine Blk.newAt ?_; first | rfl | (simp; done)) | refine Blk.alloc ?_ _ | refine Blk.drew ?_ | refine Blk.other ?_ (by simp) _)))
        obtain ⟨⟨d0, _⟩, ⟨d1, _⟩, ⟨d2, _⟩, d3, _⟩ := K.c4
        clear hb_w2 K
        go_wp2_with fail
        go_ret
        exact ⟨by first | rfl | (simp; omega), hB⟩
      · rw [decide_eq_false h2]
        simp only [Bool.and_self, Bool.and_false, Bool.not_false]
        go_enter Try.func58, Try.ntmps58
        go_wp2_with fail
        refine (HC.out _).mono ?_; rintro e w2 ⟨rfl, hb_w2⟩
        have hB : Below w.heap.size w w2 := bon (by (with_reducible repeat (first | assumption | exact Below.refl _ _ | refine Below.setCell ?_ (by first | omega | (simp; done) | (simp; omega)) _ | refine Below.drew ?_ | refine bdrewN ?_ _ | refine Below.alloc ?_ (by first | omega | (simp; done) | (simp; omega)) _))) (by simp) hb_w2
        have K : Blk w2 (w.heap.size) 47 #[.int .i64 x0, .int .i64 y0, .int .i64 x1, .int .i64 y1] := Blk.below hb_w2 (by (with_reducible repeat (first | assumption | (refine Blk.newAt ?_; first | rfl | (simp; done)) | refine Blk.alloc ?_ _ | refine Blk.drew ?_ | refine Blk.other ?_ (by simp) _)))
        obtain ⟨⟨d0, _⟩, ⟨d1, _⟩, ⟨d2, _⟩, d3, _⟩ := K.c4
        clear hb_w2 K
        go_wp2_with fail
        go_ret
        exact ⟨by first | rfl | (simp; omega), hB⟩
    · rw [decide_eq_false h1]
      simp only [Bool.and_false, Bool.false_and, Bool.not_false]
      go_enter Try.func58, Try.ntmps58
      go_wp2_with fail
      refine (HC.out _).mono ?_; rintro e w2 ⟨rfl, hb_w2⟩
      have hB : Below w.heap.size w w2 := bon (by (with_reducible repeat (first | assumption | exact Below.refl _ _ | refine Below.setCell ?_ (by first | omega | (simp; done) | (simp; omega)) _ | refine Below.drew ?_ | refine bdrewN ?_ _ | refine Below.alloc ?_ (by first | omega | (simp; done) | (simp; omega)) _))) (by simp) hb_w2
      have K : Blk w2 (w.heap.size) 47 #[.int .i64 x0, .int .i64 y0, .int .i64 x1, .int .i64 y1] := Blk.below hb_w2 (by (with_reducible repeat (first | assumption | (refine Blk.newAt ?_; first | rfl | (simp; done)) | refine Blk.alloc ?_ _ | refine Blk.drew ?_ | refine Blk.other ?_ (by simp) _)))
      obtain ⟨⟨d0, _⟩, ⟨d1, _⟩, ⟨d2, _⟩, d3, _⟩ := K.c4
      clear hb_w2 K
      go_wp2_with fail
      go_ret
      exact ⟨by first | rfl | (simp; omega), hB⟩
set_option maxHeartbeats 1000000 in
theorem rcanon_any (r : Rc) (w : World) : Calls Try.prog 67 #[rcv r] w fun e w' => e = .returned (rcv (canR r)) ∧ Below w.heap.size w w' := by
  unfold canR
  have hc := fun W => rempty_any r W
  cases k : emB r with
  | true =>
    rw [k] at hc
    have HC := Lib.hid hc
    clear hc k
    obtain ⟨x0, y0, x1, y1⟩ := r
    rw [if_pos rfl]
    go_enter Try.func67, Try.ntmps67
    go_wp2_with fail
    refine (HC.out _).mono ?_; rintro e w2 ⟨rfl, hb_w2⟩
    have hB : Below w.heap.size w w2 := bon (by (with_reducible repeat (first | assumption | exact Below.refl _ _ | refine Below.setCell ?_ (by first | omega | (simp; done) | (simp; omega)) _ | refine Below.drew ?_ | refine bdrewN ?_ _ | refine Below.alloc ?_ (by first | omega | (simp; done) | (simp; omega)) _))) (by simp; omega) hb_w2
    have K : Blk w2 (w.heap.size + 1) 47 #[.int .i64 0, .int .i64 0, .int .i64 0, .int .i64 0] := Blk.below hb_w2 (by (with_reducible repeat (first | assumption | (refine Blk.newAt ?_; first | rfl | (simp; done)) | refine Blk.alloc ?_ _ | refine Blk.drew ?_ | refine Blk.other ?_ (by simp) _)))
    obtain ⟨⟨d0, f0⟩, ⟨d1, f1⟩, ⟨d2, f2⟩, d3, f3⟩ := K.c4
    clear hb_w2
    go_wp2_with fail
    obtain ⟨KE, FE⟩ := K.set4 (.int .i64 0) (.int .i64 0) (.int .i64 0) (.int .i64 0)
    refine bodyPost_ret (results_cell_row rfl _ _ _ _ _ _ _ rfl KE Try.underlying47 rfl (by kernel_rfl)) rfl ⟨rfl, by (with_reducible repeat (first | assumption | exact Below.refl _ _ | refine Below.setCell ?_ (by first | omega | (simp; done) | (simp; omega)) _ | refine Below.drew ?_ | refine bdrewN ?_ _ | refine Below.alloc ?_ (by first | omega | (simp; done) | (simp; omega)) _))⟩
  | false =>
    rw [k] at hc
    have HC := Lib.hid hc
    clear hc k
    obtain ⟨x0, y0, x1, y1⟩ := r
    rw [if_neg (by simp)]
    go_enter Try.func67, Try.ntmps67
    go_wp2_with fail
    refine (HC.out _).mono ?_; rintro e w2 ⟨rfl, hb_w2⟩
    have hB : Below w.heap.size w w2 := bon (by (with_reducible repeat (first | assumption | exact Below.refl _ _ | refine Below.setCell ?_ (by first | omega | (simp; done) | (simp; omega)) _ | refine Below.drew ?_ | refine bdrewN ?_ _ | refine Below.alloc ?_ (by first | omega | (simp; done) | (simp; omega)) _))) (by simp; omega) hb_w2
    have K0 : Blk w2 (w.heap.size) 47 #[.int .i64 x0, .int .i64 y0, .int .i64 x1, .int .i64 y1] := Blk.below hb_w2 (by (with_reducible repeat (first | assumption | (refine Blk.newAt ?_; first | rfl | (simp; done)) | refine Blk.alloc ?_ _ | refine Blk.drew ?_ | refine Blk.other ?_ (by simp) _)))
    obtain ⟨⟨c0, _⟩, ⟨c1, _⟩, ⟨c2, _⟩, c3, _⟩ := K0.c4
    have K : Blk w2 (w.heap.size + 1) 47 #[.int .i64 0, .int .i64 0, .int .i64 0, .int .i64 0] := Blk.below hb_w2 (by (with_reducible repeat (first | assumption | (refine Blk.newAt ?_; first | rfl | (simp; done)) | refine Blk.alloc ?_ _ | refine Blk.drew ?_ | refine Blk.other ?_ (by simp) _)))
    obtain ⟨⟨d0, f0⟩, ⟨d1, f1⟩, ⟨d2, f2⟩, d3, f3⟩ := K.c4
    clear hb_w2
    go_wp2_with fail
    obtain ⟨KE, FE⟩ := K.set4 (.int .i64 x0) (.int .i64 y0) (.int .i64 x1) (.int .i64 y1)
    refine bodyPost_ret (results_cell_row rfl _ _ _ _ _ _ _ rfl KE Try.underlying47 rfl (by kernel_rfl)) rfl ⟨rfl, by (with_reducible repeat (first | assumption | exact Below.refl _ _ | refine Below.setCell ?_ (by first | omega | (simp; done) | (simp; omega)) _ | refine Below.drew ?_ | refine bdrewN ?_ _ | refine Below.alloc ?_ (by first | omega | (simp; done) | (simp; omega)) _))⟩
set_option maxHeartbeats 2000000 in
theorem rinter_any (a b : Rc) (w : World) (ha : emB a = false) (hb : emB b = false) : Calls Try.prog 68 #[rcv a, rcv b] w fun e w' => e = .returned (rcv (interR a b)) ∧ Below w.heap.size w w' := by
  have hc1 := fun W => rempty_any a W
  have hc2 := fun W => rempty_any b W
  rw [ha] at hc1
  rw [hb] at hc2
  unfold interR
  obtain ⟨x0, y0, x1, y1⟩ := a
  obtain ⟨u0, v0, u1, v1⟩ := b
  simp only at hc1 hc2 ⊢
  obtain ⟨R, hR⟩ : ∃ R, canR ⟨max x0 u0, max y0 v0, min x1 u1, min y1 v1⟩ = R := ⟨_, rfl⟩
  rw [hR]
  obtain ⟨p0, p1, p2, p3⟩ := R
  have hc3 : ∀ A B C D W, A = max x0 u0 → B = max y0 v0 → C = min x1 u1 → D = min y1 v1 → Calls Try.prog 67 #[rcv ⟨A, B, C, D⟩] W fun e w' => e = .returned (rcv ⟨p0, p1, p2, p3⟩) ∧ Below W.heap.size W w' := by
    intro A B C D W hA hB hC hD
    subst hA hB hC hD
    have := rcanon_any ⟨max x0 u0, max y0 v0, min x1 u1, min y1 v1⟩ W
    rw [hR] at this
    exact this
  have HC1 := Lib.hid hc1
  have HC2 := Lib.hid hc2
  have HC3 := Lib.hid hc3
  clear hc1 hc2 hc3 ha hb hR
  go_enter Try.func68, Try.ntmps68
  go_wp2_with fail
  refine (HC1.out _).mono ?_; rintro e w2 ⟨rfl, hb_w2⟩
  have hB : Below w.heap.size w w2 := bon (by (with_reducible repeat (first | assumption | exact Below.refl _ _ | refine Below.setCell ?_ (by first | omega | (simp; done) | (simp; omega)) _ | refine Below.drew ?_ | refine bdrewN ?_ _ | refine Below.alloc ?_ (by first | omega | (simp; done) | (simp; omega)) _))) (by simp; omega) hb_w2
  have K1 : Blk w2 (w.heap.size + 1) 47 #[.int .i64 u0, .int .i64 v0, .int .i64 u1, .int .i64 v1] := Blk.below hb_w2 (by (with_reducible repeat (first | assumption | (refine Blk.newAt ?_; first | rfl | (simp; done)) | refine Blk.alloc ?_ _ | refine Blk.drew ?_ | refine Blk.other ?_ (by simp) _)))
  have K0 : Blk w2 (w.heap.size) 47 #[.int .i64 x0, .int .i64 y0, .int .i64 x1, .int .i64 y1] := Blk.below hb_w2 (by (with_reducible repeat (first | assumption | (refine Blk.newAt ?_; first | rfl | (simp; done)) | refine Blk.alloc ?_ _ | refine Blk.drew ?_ | refine Blk.other ?_ (by simp) _)))
  have K2 : Blk w2 (w.heap.size + 1 + 1) 47 #[.int .i64 0, .int .i64 0, .int .i64 0, .int .i64 0] := Blk.below hb_w2 (by (with_reducible repeat (first | assumption | (refine Blk.newAt ?_; first | rfl | (simp; done)) | refine Blk.alloc ?_ _ | refine Blk.drew ?_ | refine Blk.other ?_ (by simp) _)))
  obtain ⟨⟨c0, _⟩, ⟨c1, _⟩, ⟨c2, _⟩, c3, _⟩ := K1.c4
  have HK0 := Lib.hid K0
  have HK1 := Lib.hid K1
  have HK2 := Lib.hid K2
  clear hb_w2 K0 K1 K2
  go_wp2_with fail
  refine (HC2.out _).mono ?_; rintro e w3 ⟨rfl, hb_w3⟩
  have hB3 : Below w.heap.size w w3 := bon hB hB.size hb_w3
  obtain ⟨⟨d0, _⟩, ⟨d1, _⟩, ⟨d2, _⟩, d3, _⟩ := (Blk.below hb_w3 HK1.out).c4
  obtain ⟨⟨e0, _⟩, ⟨e1, _⟩, ⟨e2, _⟩, e3, _⟩ := (Blk.below hb_w3 HK0.out).c4
  have HK2' := Lib.hid (Blk.below hb_w3 HK2.out)
  clear hb_w3 c0 c1 c2 c3 hB
  go_wp2_with fail
  all_goals
    refine (HC3.out _ _ _ _ _ (by omega) (by omega) (by omega) (by omega)).mono ?_; rintro e w4 ⟨rfl, hb_w4⟩
    have hB4 : Below w.heap.size w w4 := bon hB3 hB3.size hb_w4
    have K := Blk.below hb_w4 HK2'.out
    obtain ⟨⟨d0, f0⟩, ⟨d1, f1⟩, ⟨d2, f2⟩, d3, f3⟩ := K.c4
    clear hb_w4
    go_wp2_with fail
    obtain ⟨KE, FE⟩ := K.set4 (.int .i64 p0) (.int .i64 p1) (.int .i64 p2) (.int .i64 p3)
    refine bodyPost_ret (results_cell_row rfl _ _ _ _ _ _ _ rfl KE Try.underlying47 rfl (by kernel_rfl)) rfl ⟨rfl, by (with_reducible repeat (first | assumption | exact Below.refl _ _ | refine Below.setCell ?_ (by first | omega | (simp; done) | (simp; omega)) _ | refine Below.drew ?_ | refine bdrewN ?_ _ | refine Below.alloc ?_ (by first | omega | (simp; done) | (simp; omega)) _))⟩
theorem rc_ne {a b c d a' b' c' d' : Int} (h : (⟨a, b, c, d⟩ : Rc) ≠ ⟨a', b', c', d'⟩) : (a == a') = false ∨ (a == a') = true ∧ ((b == b') = false ∨ (b == b') = true ∧ ((c == c') = false ∨ (c == c') = true ∧ (d == d') = false)) :=
  px_ne (fun k => h (by simp only [Px.mk.injEq] at k; simp only [Rc.mk.injEq]; exact k))
set_option maxHeartbeats 2000000 in
theorem rwithin_any (a b : Rc) (w : World) (ha : emB a = false) (hb : emB b = false) : Calls Try.prog 56 #[rcv a, rcv b] w fun e w' => e = .returned (.bool (decide (a = interR a b))) ∧ Below w.heap.size w w' := by
  have hc1 := fun W => rcanon_any a W
  have hc2 := fun W => rinter_any a b W ha hb
  have hca : canR a = a := by unfold canR; rw [ha]; rfl
  rw [hca] at hc1
  obtain ⟨R, hR⟩ : ∃ R, interR a b = R := ⟨_, rfl⟩
  rw [hR] at hc2 ⊢
  obtain ⟨x0, y0, x1, y1⟩ := a
  obtain ⟨u0, v0, u1, v1⟩ := b
  obtain ⟨p0, p1, p2, p3⟩ := R
  have HC1 := Lib.hid hc1
  have HC2 := Lib.hid hc2
  clear hc1 hc2 ha hb hca hR
  have hK : ∀ wx, Blk wx w.heap.size 47 #[.int .i64 x0, .int .i64 y0, .int .i64 x1, .int .i64 y1] → Blk wx (w.heap.size + 1) 47 #[.int .i64 u0, .int .i64 v0, .int .i64 u1, .int .i64 v1] → True := fun _ _ _ => trivial
  clear hK
  by_cases hx : (⟨x0, y0, x1, y1⟩ : Rc) = ⟨p0, p1, p2, p3⟩
  · rw [decide_eq_true hx]
    simp only [Rc.mk.injEq] at hx
    obtain ⟨rfl, rfl, rfl, rfl⟩ := hx
    have hd : (x0 == x0) = true := by simp
    clear hd
    go_enter Try.func56, Try.ntmps56
    go_wp2_with fail
    refine (HC1.out _).mono ?_; rintro e w2 ⟨rfl, hb_w2⟩
    have hB : Below w.heap.size w w2 := bon (by (with_reducible repeat (first | assumption | exact Below.refl _ _ | refine Below.setCell ?_ (by first | omega | (simp; done) | (simp; omega)) _ | refine Below.drew ?_ | refine bdrewN ?_ _ | refine Below.alloc ?_ (by first | omega | (simp; done) | (simp; omega)) _))) (by simp; omega) hb_w2
    have K1 : Blk w2 (w.heap.size + 1) 47 #[.int .i64 u0, .int .i64 v0, .int .i64 u1, .int .i64 v1] := Blk.below hb_w2 (by (with_reducible repeat (first | assumption | (refine Blk.newAt ?_; first | rfl | (simp; done)) | refine Blk.alloc ?_ _ | refine Blk.drew ?_ | refine Blk.other ?_ (by simp) _)))
    have K0 : Blk w2 (w.heap.size) 47 #[.int .i64 x0, .int .i64 y0, .int .i64 x1, .int .i64 y1] := Blk.below hb_w2 (by (with_reducible repeat (first | assumption | (refine Blk.newAt ?_; first | rfl | (simp; done)) | refine Blk.alloc ?_ _ | refine Blk.drew ?_ | refine Blk.other ?_ (by simp) _)))
    obtain ⟨⟨c0, f0⟩, ⟨c1, f1⟩, ⟨c2, f2⟩, c3, f3⟩ := K0.c4
    have HB := Lib.hid hB
    clear hb_w2 hB
    go_upto_region 2 with fail
    obtain ⟨KE, FE⟩ := K0.set4 (.int .i64 x0) (.int .i64 y0) (.int .i64 x1) (.int .i64 y1)
    have K1' : Blk ((((w2.setCell ⟨w.heap.size, 0, none⟩ (.int .i64 x0)).setCell ⟨w.heap.size, 1, none⟩ (.int .i64 y0)).setCell ⟨w.heap.size, 2, none⟩ (.int .i64 x1)).setCell ⟨w.heap.size, 3, none⟩ (.int .i64 y1)) (w.heap.size + 1) 47 #[.int .i64 u0, .int .i64 v0, .int .i64 u1, .int .i64 v1] := (((K1.other (by simp) _).other (by simp) _).other (by simp) _).other (by simp) _
    have hB3 : Below w.heap.size w ((((w2.setCell ⟨w.heap.size, 0, none⟩ (.int .i64 x0)).setCell ⟨w.heap.size, 1, none⟩ (.int .i64 y0)).setCell ⟨w.heap.size, 2, none⟩ (.int .i64 x1)).setCell ⟨w.heap.size, 3, none⟩ (.int .i64 y1)) := (((HB.out.setCell (Nat.le_refl _) _).setCell (Nat.le_refl _) _).setCell (Nat.le_refl _) _).setCell (Nat.le_refl _) _
    generalize ((((w2.setCell ⟨w.heap.size, 0, none⟩ (.int .i64 x0)).setCell ⟨w.heap.size, 1, none⟩ (.int .i64 y0)).setCell ⟨w.heap.size, 2, none⟩ (.int .i64 x1)).setCell ⟨w.heap.size, 3, none⟩ (.int .i64 y1)) = w3 at *
    obtain ⟨⟨c0, _⟩, ⟨c1, _⟩, ⟨c2, _⟩, c3, _⟩ := KE.c4
    obtain ⟨⟨d0, _⟩, ⟨d1, _⟩, ⟨d2, _⟩, d3, _⟩ := K1'.c4
    have g0 := cell_regrown c0
    have g1 := cell_regrown c1
    have g2 := cell_regrown c2
    have g3 := cell_regrown c3
    have g4 := cell_regrown d0
    have g5 := cell_regrown d1
    have g6 := cell_regrown d2
    have g7 := cell_regrown d3
    clear K0 K1 K1' KE FE
    (refine wp_region_calm 4 [] [false, false, false, false] (by kernel_rfl) (by kernel_rfl) (by decide) (freshOk_of (by kernel_rfl) (by kernel_rfl) (fun x hx => by cases hx)) ?_; simp only [List.take_succ_cons, List.take_zero, List.drop_succ_cons, List.drop_zero, List.zip_cons_cons, List.zip_nil_left, List.zip_nil_right]; (repeat (first | refine wpCalm_pass ?_ | (refine wpCalm_step (fun K hK => ?_); go_simp; first | (refine hK _ ?_; clear hK K) | (apply Exists.intro; refine ⟨fun _ => ?_, hK _ ?_⟩; (exact HC2.out _); clear hK K)))); (first | refine wpCalm_nil ?_ | skip))
    intro F wz hF
    obtain rfl := hF.nil
    have hB4 : Below w.heap.size w wz := bon hB3 hB3.size hF.below
    clear g0 g1 g2 g3 g4 g5 g6 g7 hF c0 c1 c2 c3 d0 d1 d2 d3 hB3
    unfold putL
    go_wp2_with fail
    go_ret
    exact ⟨rfl, hB4⟩
  · rw [decide_eq_false hx]
    have hd := rc_ne hx
    clear hx
    rcases hd with e1 | ⟨e1, e2 | ⟨e2, e3 | ⟨e3, e4⟩⟩⟩
    all_goals
      go_enter Try.func56, Try.ntmps56
      go_wp2_with fail
      refine (HC1.out _).mono ?_; rintro e w2 ⟨rfl, hb_w2⟩
      have hB : Below w.heap.size w w2 := bon (by (with_reducible repeat (first | assumption | exact Below.refl _ _ | refine Below.setCell ?_ (by first | omega | (simp; done) | (simp; omega)) _ | refine Below.drew ?_ | refine bdrewN ?_ _ | refine Below.alloc ?_ (by first | omega | (simp; done) | (simp; omega)) _))) (by simp; omega) hb_w2
      have K1 : Blk w2 (w.heap.size + 1) 47 #[.int .i64 u0, .int .i64 v0, .int .i64 u1, .int .i64 v1] := Blk.below hb_w2 (by (with_reducible repeat (first | assumption | (refine Blk.newAt ?_; first | rfl | (simp; done)) | refine Blk.alloc ?_ _ | refine Blk.drew ?_ | refine Blk.other ?_ (by simp) _)))
      have K0 : Blk w2 (w.heap.size) 47 #[.int .i64 x0, .int .i64 y0, .int .i64 x1, .int .i64 y1] := Blk.below hb_w2 (by (with_reducible repeat (first | assumption | (refine Blk.newAt ?_; first | rfl | (simp; done)) | refine Blk.alloc ?_ _ | refine Blk.drew ?_ | refine Blk.other ?_ (by simp) _)))
      obtain ⟨⟨c0, f0⟩, ⟨c1, f1⟩, ⟨c2, f2⟩, c3, f3⟩ := K0.c4
      have HB := Lib.hid hB
      clear hb_w2 hB
      go_upto_region 2 with fail
      obtain ⟨KE, FE⟩ := K0.set4 (.int .i64 x0) (.int .i64 y0) (.int .i64 x1) (.int .i64 y1)
      have K1' : Blk ((((w2.setCell ⟨w.heap.size, 0, none⟩ (.int .i64 x0)).setCell ⟨w.heap.size, 1, none⟩ (.int .i64 y0)).setCell ⟨w.heap.size, 2, none⟩ (.int .i64 x1)).setCell ⟨w.heap.size, 3, none⟩ (.int .i64 y1)) (w.heap.size + 1) 47 #[.int .i64 u0, .int .i64 v0, .int .i64 u1, .int .i64 v1] := (((K1.other (by simp) _).other (by simp) _).other (by simp) _).other (by simp) _
      have hB3 : Below w.heap.size w ((((w2.setCell ⟨w.heap.size, 0, none⟩ (.int .i64 x0)).setCell ⟨w.heap.size, 1, none⟩ (.int .i64 y0)).setCell ⟨w.heap.size, 2, none⟩ (.int .i64 x1)).setCell ⟨w.heap.size, 3, none⟩ (.int .i64 y1)) := (((HB.out.setCell (Nat.le_refl _) _).setCell (Nat.le_refl _) _).setCell (Nat.le_refl _) _).setCell (Nat.le_refl _) _
      generalize ((((w2.setCell ⟨w.heap.size, 0, none⟩ (.int .i64 x0)).setCell ⟨w.heap.size, 1, none⟩ (.int .i64 y0)).setCell ⟨w.heap.size, 2, none⟩ (.int .i64 x1)).setCell ⟨w.heap.size, 3, none⟩ (.int .i64 y1)) = w3 at *
      obtain ⟨⟨c0, _⟩, ⟨c1, _⟩, ⟨c2, _⟩, c3, _⟩ := KE.c4
      obtain ⟨⟨d0, _⟩, ⟨d1, _⟩, ⟨d2, _⟩, d3, _⟩ := K1'.c4
      have g0 := cell_regrown c0
      have g1 := cell_regrown c1
      have g2 := cell_regrown c2
      have g3 := cell_regrown c3
      have g4 := cell_regrown d0
      have g5 := cell_regrown d1
      have g6 := cell_regrown d2
      have g7 := cell_regrown d3
      clear K0 K1 K1' KE FE
      (refine wp_region_calm 4 [] [false, false, false, false] (by kernel_rfl) (by kernel_rfl) (by decide) (freshOk_of (by kernel_rfl) (by kernel_rfl) (fun x hx => by cases hx)) ?_; simp only [List.take_succ_cons, List.take_zero, List.drop_succ_cons, List.drop_zero, List.zip_cons_cons, List.zip_nil_left, List.zip_nil_right]; (repeat (first | refine wpCalm_pass ?_ | (refine wpCalm_step (fun K hK => ?_); go_simp; first | (refine hK _ ?_; clear hK K) | (apply Exists.intro; refine ⟨fun _ => ?_, hK _ ?_⟩; (exact HC2.out _); clear hK K)))); (first | refine wpCalm_nil ?_ | skip))
      intro F wz hF
      obtain rfl := hF.nil
      have hB4 : Below w.heap.size w wz := bon hB3 hB3.size hF.below
      clear g0 g1 g2 g3 g4 g5 g6 g7 hF c0 c1 c2 c3 d0 d1 d2 d3 hB3
      unfold putL
      go_wp2_with fail
      go_ret
      exact ⟨rfl, hB4⟩
end Go.Proofs.Ytgikmcgoaihggaa
