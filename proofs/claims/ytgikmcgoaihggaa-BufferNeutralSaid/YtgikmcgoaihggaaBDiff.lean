/- The program's Diff and OpaqueRegion. -/
import Derived.Test.YtgikmcgoaihggaaBRun
import Derived.Test.YtgikmcgoaihggaaBAt
import Derived.Test.YtgikmcgoaihggaaBEq
set_option linter.unusedVariables false
set_option linter.unusedSimpArgs false
namespace Go.Proofs.Ytgikmcgoaihggaa
open Go.RowKit Go.Sort
attribute [local go_sem ↓] Go.wp_at_zero Go.wp_at_succ
attribute [local go_sem] calm calmAt calmUpon

abbrev rcv (r : Rc) : Value := .agg #[.int .i64 r.x0, .int .i64 r.y0, .int .i64 r.x1, .int .i64 r.y1]
theorem bframe_any (bw bh : Int) (v : Value) (h1 : v.oneCell' = true) (w : World) : Calls Try.prog 43 #[bufv bw bh v] w fun e w' => e = .returned (rcv ⟨0, 0, bw, bh⟩) ∧ Below w.heap.size w w' := by
  go_enter Try.func43, Try.ntmps43
  go_wp2_with fail
  refine bodyPost_ret (v := rcv ⟨0, 0, bw, bh⟩) (by simp [results, Try.results43, go_sem]) rfl ⟨rfl, by (with_reducible repeat (first | assumption | exact Below.refl _ _ | refine Below.setCell ?_ (by first | omega | (simp; done) | (simp; omega)) _ | refine Below.drew ?_ | refine bdrewN ?_ _ | refine Below.alloc ?_ (by first | omega | (simp; done) | (simp; omega)) _))⟩
/-- Where two lists of pixels differ; where a pixel is opaque. -/
def diffM (p1 p2 : List Px) (i : Nat) : Bool := decide (p1.getD i px0 ≠ p2.getD i px0)
def opqM (p : List Px) (i : Nat) : Bool := decide ((p.getD i px0).a = 255)
set_option maxHeartbeats 2000000 in
theorem bdiff1_any (b2 b3 : Nat) (w1 h1 w2 h2 : Int) (A1 A2 : Option Addr) (p1 p2 : List Px) (k1 k2 i : Nat) (w : World) (K2 : Blk w b2 27 #[.int .i64 w1, .int .i64 h1, .slice A1 p1.length k1]) (K3 : Blk w b3 27 #[.int .i64 w2, .int .i64 h2, .slice A2 p2.length k2])
    (r1 : Rdp w A1 p1) (r2 : Rdp w A2 p2) (hi1 : i < p1.length) (hi2 : i < p2.length) (hl1 : p1.length ≤ 9223372036854775807) (hl2 : p2.length ≤ 9223372036854775807) :
    Calls Try.prog 45 #[.int .i64 i, .pointer (some ⟨b2, 0, none⟩), .pointer (some ⟨b3, 0, none⟩)] w fun e w' => e = .returned (.bool (diffM p1 p2 i)) ∧ Below w.heap.size w w' := by
  obtain ⟨⟨u0, _⟩, ⟨u1, _⟩, u2, _⟩ := K2.c3
  obtain ⟨⟨v0, _⟩, ⟨v1, _⟩, v2, _⟩ := K3.c3
  obtain ⟨b1, o1, hA1, hbl1, c0, c1, c2, c3⟩ := r1 i hi1
  obtain ⟨b4, o2, hA2, hbl2, d0, d1, d2, d3⟩ := r2 i hi2
  obtain ⟨X, hX⟩ : ∃ X, p1[i] = X := ⟨_, rfl⟩
  obtain ⟨Y, hY⟩ : ∃ Y, p2[i] = Y := ⟨_, rfl⟩
  have e : diffM p1 p2 i = decide (X ≠ Y) := by
    unfold diffM
    rw [List.getD_eq_getElem?_getD, List.getD_eq_getElem?_getD, List.getElem?_eq_getElem hi1, List.getElem?_eq_getElem hi2, Option.getD_some, Option.getD_some, hX, hY]
  rw [e]
  rw [hX] at c0 c1 c2 c3
  rw [hY] at d0 d1 d2 d3
  clear e hX hY r1 r2 K2 K3
  obtain ⟨xr, xg, xb, xa⟩ := X
  obtain ⟨yr, yg, yb, ya⟩ := Y
  simp only at c0 c1 c2 c3 d0 d1 d2 d3
  generalize p1.length = n1 at *
  generalize p2.length = n2 at *
  subst hA1
  subst hA2
  by_cases hxy : (⟨xr, xg, xb, xa⟩ : Px) = ⟨yr, yg, yb, ya⟩
  · rw [decide_eq_false (fun k => k hxy)]
    simp only [Px.mk.injEq] at hxy
    obtain ⟨rfl, rfl, rfl, rfl⟩ := hxy
    go_enter Try.func45, Try.ntmps45
    go_wp2_with fail
    go_quiet (fail)
    go_wp2_with fail
    go_ret
    exact ⟨rfl, bdrewN (Below.refl _ _) _⟩
  · rw [decide_eq_true hxy]
    have hd := px_ne hxy
    clear hxy
    rcases hd with e1 | ⟨e1, e2 | ⟨e2, e3 | ⟨e3, e4⟩⟩⟩
    all_goals
      go_enter Try.func45, Try.ntmps45
      go_wp2_with fail
      go_quiet (fail)
      go_wp2_with fail
      go_ret
      exact ⟨rfl, bdrewN (Below.refl _ _) _⟩
theorem opaque_any (r g b a : Int) (w : World) : Calls Try.prog 48 #[px r g b a] w fun e w' => e = .returned (.bool (decide (a = 255))) ∧ Below w.heap.size w w' := by
  by_cases h : a = 255
  · rw [decide_eq_true h]
    have h' : (a == 255) = true := by simpa using h
    clear h
    go_enter Try.func48, Try.ntmps48
    go_wp2_with fail
    go_ret
    exact ⟨rfl, by (with_reducible repeat (first | assumption | exact Below.refl _ _ | refine Below.setCell ?_ (by first | omega | (simp; done) | (simp; omega)) _ | refine Below.drew ?_ | refine bdrewN ?_ _ | refine Below.alloc ?_ (by first | omega | (simp; done) | (simp; omega)) _))⟩
  · rw [decide_eq_false h]
    have h' : (a == 255) = false := by simpa using h
    clear h
    go_enter Try.func48, Try.ntmps48
    go_wp2_with fail
    go_ret
    exact ⟨rfl, by (with_reducible repeat (first | assumption | exact Below.refl _ _ | refine Below.setCell ?_ (by first | omega | (simp; done) | (simp; omega)) _ | refine Below.drew ?_ | refine bdrewN ?_ _ | refine Below.alloc ?_ (by first | omega | (simp; done) | (simp; omega)) _))⟩
theorem bopaque1_any (b2 : Nat) (w1 h1 : Int) (A1 : Option Addr) (p1 : List Px) (k1 i : Nat) (w : World) (K2 : Blk w b2 27 #[.int .i64 w1, .int .i64 h1, .slice A1 p1.length k1])
    (r1 : Rdp w A1 p1) (hi1 : i < p1.length) (hl1 : p1.length ≤ 9223372036854775807) :
    Calls Try.prog 47 #[.int .i64 i, .pointer (some ⟨b2, 0, none⟩)] w fun e w' => e = .returned (.bool (opqM p1 i)) ∧ Below w.heap.size w w' := by
  obtain ⟨⟨u0, _⟩, ⟨u1, _⟩, u2, _⟩ := K2.c3
  obtain ⟨b1, o1, hA1, hbl1, c0, c1, c2, c3⟩ := r1 i hi1
  obtain ⟨X, hX⟩ : ∃ X, p1[i] = X := ⟨_, rfl⟩
  have e : opqM p1 i = decide (X.a = 255) := by
    unfold opqM
    rw [List.getD_eq_getElem?_getD, List.getElem?_eq_getElem hi1, Option.getD_some, hX]
  rw [e]
  rw [hX] at c0 c1 c2 c3
  clear e hX r1 K2
  obtain ⟨xr, xg, xb, xa⟩ := X
  simp only at c0 c1 c2 c3 ⊢
  have hC := fun W => opaque_any xr xg xb xa W
  generalize decide (xa = 255) = bb at *
  have HC := Lib.hid hC
  clear hC
  generalize p1.length = n1 at *
  subst hA1
  go_enter Try.func47, Try.ntmps47
  go_wp2_with (go_at_call 48; refine (HC.out _).mono ?_; rintro e w1 ⟨rfl, hb1⟩)
  go_ret
  exact ⟨rfl, hb1⟩
end Go.Proofs.Ytgikmcgoaihggaa
