/- BufferRuns: the walk. -/
import Derived.Test.YtgikmcgoaihggaaVDiff
import Derived.Test.YtgikmcgoaihggaaBEx
import Derived.Test.YtgikmcgoaihggaaOpenB
set_option linter.unusedVariables false
set_option linter.unusedSimpArgs false
namespace Go.Proofs.Ytgikmcgoaihggaa
open Go.RowKit Go.Sort
attribute [local go_sem ↓] Go.wp_at_zero Go.wp_at_succ

theorem rects_at {w : World} {B : Nat} {A : Option Addr} {n c : Nat} {l : List Rc} (r : w.ownsRow B 47 4 (.slice A n c) n (rcCells l)) (hn : l.length = n) (h : 0 < n) :
    ∃ g, A = some ⟨g, 0, none⟩ ∧ g < w.heap.size ∧ ∀ j (hj : j < l.length), w.cell? ⟨g, j * 4, none⟩ = some (.int .i64 l[j].x0) ∧ w.cell? ⟨g, j * 4 + 1, none⟩ = some (.int .i64 l[j].y0) ∧ w.cell? ⟨g, j * 4 + 2, none⟩ = some (.int .i64 l[j].x1) ∧ w.cell? ⟨g, j * 4 + 3, none⟩ = some (.int .i64 l[j].y1) := by
  subst hn
  have hl : l ≠ [] := by intro e; subst e; simp at h
  obtain ⟨g, c', hv, _, _, _, hg, hcl, _⟩ := own_some r hl
  simp only [Value.slice.injEq] at hv
  obtain ⟨rfl, _, _⟩ := hv
  refine ⟨g, rfl, hg, fun j hj => ?_⟩
  obtain ⟨e0, e1, e2, e3⟩ := rcCells_get l j hj
  exact ⟨hcl _ _ e0, hcl _ _ e1, hcl _ _ e2, hcl _ _ e3⟩
set_option maxRecDepth 100000 in
set_option maxHeartbeats 2000000 in
theorem lbrects_same (B B' : Nat) (v v' : Value) (l : List Rc) (w : World) (h : OwnR w B v l) (h' : OwnR w B' v' l) :
    Calls Try.prog 19 #[v, v'] w fun e w' => e = .returned (.bool true) ∧ Below w.heap.size w w' := by
  unfold OwnR at h h'
  obtain ⟨A, c, rfl, _, hl⟩ := slice_lenR h
  obtain ⟨A', c', rfl, _, _⟩ := slice_lenR h'
  obtain ⟨n, hn⟩ : ∃ n, l.length = n := ⟨_, rfl⟩
  rw [hn] at hl h h' ⊢
  have HN := Lib.hid hn
  have H := Lib.hid h
  have H' := Lib.hid h'
  clear hn h h'
  go_enter Try.func19, Try.ntmps19
  go_wp2_with fail
  go_loopg [5] n (fun k s5 wr => ∃ j : Nat, k = n - j ∧ j ≤ n ∧ s5 = .int .i64 j ∧ Below w.heap.size w wr)
  case atStart => exact ⟨0, by omega, by omega, by first | rfl | simp, Below.refl _ _⟩
  case round =>
    obtain ⟨j, hk, hj, rfl, hB⟩ := hrel
    by_cases hlt : j < n
    · obtain ⟨g, hA, hgl, hc⟩ := rects_at H.out HN.out (by omega)
      obtain ⟨g', hA', hgl', hc'⟩ := rects_at H'.out HN.out (by omega)
      obtain ⟨x0, x1, x2, x3⟩ := hc j (by rw [HN.out]; omega)
      obtain ⟨y0, y1, y2, y3⟩ := hc' j (by rw [HN.out]; omega)
      obtain ⟨d, hdd⟩ : ∃ d, l[j]'(by rw [HN.out]; omega) = d := ⟨_, rfl⟩
      rw [hdd] at x0 x1 x2 x3 y0 y1 y2 y3
      obtain ⟨da, db, dc, dd⟩ := d
      simp only at x0 x1 x2 x3 y0 y1 y2 y3
      replace x0 := (hB.cell (p := ⟨g, j * 4, none⟩) hgl).trans x0
      replace x1 := (hB.cell (p := ⟨g, j * 4 + 1, none⟩) hgl).trans x1
      replace x2 := (hB.cell (p := ⟨g, j * 4 + 2, none⟩) hgl).trans x2
      replace x3 := (hB.cell (p := ⟨g, j * 4 + 3, none⟩) hgl).trans x3
      replace y0 := (hB.cell (p := ⟨g', j * 4, none⟩) hgl').trans y0
      replace y1 := (hB.cell (p := ⟨g', j * 4 + 1, none⟩) hgl').trans y1
      replace y2 := (hB.cell (p := ⟨g', j * 4 + 2, none⟩) hgl').trans y2
      replace y3 := (hB.cell (p := ⟨g', j * 4 + 3, none⟩) hgl').trans y3
      clear hc hc' hdd
      subst hA
      subst hA'
      go_wp2_with fail
      go_quiet (fail)
      go_wp2_with fail
      go_roundg (n - (j + 1))
      case measure => omega
      case rel => exact ⟨j + 1, by omega, by omega, by first | rfl | simp, bdrewN hB _⟩
    · obtain rfl : n = j := by omega
      go_wp2_with fail
      go_ret
      exact ⟨rfl, hB⟩
set_option maxRecDepth 100000 in
set_option maxHeartbeats 2000000 in
theorem bufferruns_any (w1 h1 : Int) (A1 : Option Addr) (p1 : List Px) (k1 : Nat) (w2 h2 : Int) (A2 : Option Addr) (p2 : List Px) (k2 : Nat) (w : World) (hl1 : p1.length ≤ k1 ∧ k1 ≤ 9223372036854775807) (hl2 : p2.length ≤ k2 ∧ k2 ≤ 9223372036854775807) (r1 : Rdp w A1 p1) (r2 : Rdp w A2 p2) :
    Calls Try.prog 4 #[bufv w1 h1 (.slice A1 p1.length k1), bufv w2 h2 (.slice A2 p2.length k2)] w fun e w' => e = .returned (.bool true) ∧ Below w.heap.size w w' := by
  have m1 : p1.length ≤ 9223372036854775807 := by omega
  have m2 : p2.length ≤ 9223372036854775807 := by omega
  have hD1 := fun W (hb : Below w.heap.size w W) => bdiff_any w1 h1 A1 p1 k1 w2 h2 A2 p2 k2 W (r1.below hb) (r2.below hb) m1 m2
  have hD2 := fun W (hb : Below w.heap.size w W) => vdiff_any w1 h1 A1 p1 k1 w2 h2 A2 p2 k2 W (r1.below hb) (r2.below hb) m1 m2
  have hO1 := fun W (hb : Below w.heap.size w W) => bopaque_any w1 h1 A1 p1 k1 W (r1.below hb) m1
  have hO2 := fun W (hb : Below w.heap.size w W) => vopaque_any w1 h1 A1 p1 k1 W (r1.below hb) m1
  unfold RectsOk at hD1 hD2 hO1 hO2
  generalize diffE w1 h1 p1 w2 h2 p2 = E at *
  generalize diffL w1 h1 p1 w2 h2 p2 = L at *
  generalize opqE w1 h1 p1 = E2 at *
  generalize opqL w1 h1 p1 = L2 at *
  generalize p1.length = n1 at *
  generalize p2.length = n2 at *
  have HD1 := Lib.hid hD1
  have HD2 := Lib.hid hD2
  have HO1 := Lib.hid hO1
  have HO2 := Lib.hid hO2
  clear hD1 hD2 hO1 hO2 r1 r2
  by_cases s1 : 600 < n1
  · go_enter Try.func4, Try.ntmps4
    go_wp2_with fail
    refine (lbex_true _).mono ?_; rintro e wx ⟨rfl, hb_wx⟩
    have hB : Below w.heap.size w wx := bon (by (with_reducible repeat (first | assumption | exact Below.refl _ _ | refine Below.setCell ?_ (by first | omega | (simp; done) | (simp; omega)) _ | refine Below.drew ?_ | refine bdrewN ?_ _ | refine Below.alloc ?_ (by first | omega | (simp; done) | (simp; omega)) _))) (by simp; omega) hb_wx
    clear hb_wx
    go_wp2_with fail
    go_ret
    exact ⟨rfl, hB⟩
  · by_cases s2 : 600 < n2
    · go_enter Try.func4, Try.ntmps4
      go_wp2_with fail
      refine (lbex_true _).mono ?_; rintro e wx ⟨rfl, hb_wx⟩
      have hB : Below w.heap.size w wx := bon (by (with_reducible repeat (first | assumption | exact Below.refl _ _ | refine Below.setCell ?_ (by first | omega | (simp; done) | (simp; omega)) _ | refine Below.drew ?_ | refine bdrewN ?_ _ | refine Below.alloc ?_ (by first | omega | (simp; done) | (simp; omega)) _))) (by simp; omega) hb_wx
      clear hb_wx
      go_wp2_with fail
      go_ret
      exact ⟨rfl, hB⟩
    · go_enter Try.func4, Try.ntmps4
      go_wp2_with fail
      refine (HD1.out _ (by (with_reducible repeat (first | assumption | exact Below.refl _ _ | refine Below.setCell ?_ (by first | omega | (simp; done) | (simp; omega)) _ | refine Below.drew ?_ | refine bdrewN ?_ _ | refine Below.alloc ?_ (by first | omega | (simp; done) | (simp; omega)) _)))).mono ?_; rintro e w3 ⟨v3, rfl, hb_w3, ho3⟩
      have hB3 : Below w.heap.size w w3 := bon (by (with_reducible repeat (first | assumption | exact Below.refl _ _ | refine Below.setCell ?_ (by first | omega | (simp; done) | (simp; omega)) _ | refine Below.drew ?_ | refine bdrewN ?_ _ | refine Below.alloc ?_ (by first | omega | (simp; done) | (simp; omega)) _))) (by simp; omega) hb_w3
      have K2 : Blk w3 (w.heap.size) 27 #[.int .i64 w1, .int .i64 h1, .slice A1 n1 k1] := Blk.below hb_w3 (by (with_reducible repeat (first | assumption | (refine Blk.newAt ?_; first | rfl | (simp; done)) | refine Blk.alloc ?_ _ | refine Blk.drew ?_ | refine Blk.other ?_ (by simp) _)))
      have K3 : Blk w3 (w.heap.size + 1) 27 #[.int .i64 w2, .int .i64 h2, .slice A2 n2 k2] := Blk.below hb_w3 (by (with_reducible repeat (first | assumption | (refine Blk.newAt ?_; first | rfl | (simp; done)) | refine Blk.alloc ?_ _ | refine Blk.drew ?_ | refine Blk.other ?_ (by simp) _)))
      obtain ⟨⟨c0, _⟩, ⟨c1, _⟩, c2, _⟩ := K2.c3
      obtain ⟨⟨d0, _⟩, ⟨d1, _⟩, d2, _⟩ := K3.c3
      have HK2 := Lib.hid K2
      obtain ⟨a3, k3, hv3, _, _⟩ := slice_lenR ho3
      subst hv3
      have HR3 := Lib.hid ho3
      clear hb_w3 K2 K3 ho3
      go_wp2_with fail
      refine (HD2.out _ (by (with_reducible repeat (first | assumption | exact Below.refl _ _ | refine Below.setCell ?_ (by first | omega | (simp; done) | (simp; omega)) _ | refine Below.drew ?_ | refine bdrewN ?_ _ | refine Below.alloc ?_ (by first | omega | (simp; done) | (simp; omega)) _)))).mono ?_; rintro e w4 ⟨v4, rfl, hb4, ho4⟩
      have hB4 : Below w.heap.size w w4 := bon hB3 hB3.size hb4
      have HK4 := Lib.hid (Blk.below hb4 HK2.out)
      obtain ⟨⟨c0, _⟩, ⟨c1, _⟩, c2, _⟩ := HK4.out.c3
      have HR3' := Lib.hid ((FrT.ofBelow hb4 0 []).row HR3.out (.inl rfl))
      obtain ⟨a4, k4, hv4, _, _⟩ := slice_lenR ho4
      subst hv4
      have HR4 := Lib.hid ho4
      clear hb4 ho4 d0 d1 d2
      go_wp2_with fail
      refine (lbrects_same _ _ _ _ L w4 HR3'.out HR4.out).mono ?_; rintro e w5 ⟨rfl, hb5⟩
      have hB5 := bon hB4 hB4.size hb5
      have HK5 := Lib.hid (Blk.below hb5 HK4.out)
      obtain ⟨⟨c0, _⟩, ⟨c1, _⟩, c2, _⟩ := HK5.out.c3
      clear hb5
      go_wp2_with fail
      refine (HO1.out _ hB5).mono ?_; rintro e w6 ⟨v6, rfl, hb6, ho6⟩
      have hB6 := bon hB5 hB5.size hb6
      have HK6 := Lib.hid (Blk.below hb6 HK5.out)
      obtain ⟨⟨c0, _⟩, ⟨c1, _⟩, c2, _⟩ := HK6.out.c3
      obtain ⟨a6, k6, hv6, _, _⟩ := slice_lenR ho6
      subst hv6
      have HR6 := Lib.hid ho6
      clear hb6 ho6
      go_wp2_with fail
      refine (HO2.out _ hB6).mono ?_; rintro e w7 ⟨v7, rfl, hb7, ho7⟩
      have hB7 := bon hB6 hB6.size hb7
      have HR6' := Lib.hid ((FrT.ofBelow hb7 0 []).row HR6.out (.inl rfl))
      obtain ⟨a7, k7, hv7, _, _⟩ := slice_lenR ho7
      subst hv7
      have HR7 := Lib.hid ho7
      clear hb7 ho7
      go_wp2_with fail
      refine (lbrects_same _ _ _ _ L2 w7 HR6'.out HR7.out).mono ?_; rintro e w8 ⟨rfl, hb8⟩
      have hB8 := bon hB7 hB7.size hb8
      clear hb8
      go_wp2_with fail
      refine (lbex_true _).mono ?_; rintro e w9 ⟨rfl, hb9⟩
      have hB9 := bon hB8 hB8.size hb9
      clear hb9
      go_wp2_with fail
      go_ret
      exact ⟨rfl, hB9⟩
end Go.Proofs.Ytgikmcgoaihggaa
