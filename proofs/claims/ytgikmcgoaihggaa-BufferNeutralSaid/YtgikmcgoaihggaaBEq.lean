/- Equal and At, of the program and of the reference. -/
import Derived.Test.YtgikmcgoaihggaaBVal
set_option linter.unusedVariables false
set_option linter.unusedSimpArgs false
namespace Go.Proofs.Ytgikmcgoaihggaa
open Go.RowKit Go.Sort
attribute [local go_sem ↓] Go.wp_at_zero Go.wp_at_succ

def eqB (w1 h1 : Int) (p1 : List Px) (w2 h2 : Int) (p2 : List Px) : Bool := decide (w1 = w2) && decide (h1 = h2) && decide (p1 = p2)
theorem eqB_self (w h : Int) (p : List Px) : eqB w h p w h p = true := by unfold eqB; simp
theorem eqB_w {w1 w2 : Int} (h1 : Int) (p1 : List Px) (h2 : Int) (p2 : List Px) (k : w1 ≠ w2) : eqB w1 h1 p1 w2 h2 p2 = false := by unfold eqB; rw [decide_eq_false k]; rfl
theorem eqB_h {h1 h2 : Int} (w1 : Int) (p1 : List Px) (w2 : Int) (p2 : List Px) (k : h1 ≠ h2) : eqB w1 h1 p1 w2 h2 p2 = false := by unfold eqB; rw [decide_eq_false k]; simp
theorem eqB_p {p1 p2 : List Px} (w1 h1 w2 h2 : Int) (k : p1 ≠ p2) : eqB w1 h1 p1 w2 h2 p2 = false := by unfold eqB; rw [decide_eq_false k]; simp
theorem eqB_yes {p1 p2 : List Px} {w1 h1 w2 h2 : Int} (e1 : w1 = w2) (e2 : h1 = h2) (e3 : p1 = p2) : eqB w1 h1 p1 w2 h2 p2 = true := by subst e1 e2 e3; exact eqB_self _ _ _
theorem px_ne {a b c d a' b' c' d' : Int} (h : (⟨a, b, c, d⟩ : Px) ≠ ⟨a', b', c', d'⟩) : (a == a') = false ∨ (a == a') = true ∧ ((b == b') = false ∨ (b == b') = true ∧ ((c == c') = false ∨ (c == c') = true ∧ (d == d') = false)) := by
  simp only [beq_eq_false_iff_ne, ne_eq, beq_iff_eq]
  by_cases h1 : a = a'
  · by_cases h2 : b = b'
    · by_cases h3 : c = c'
      · refine .inr ⟨h1, .inr ⟨h2, .inr ⟨h3, fun h4 => h ?_⟩⟩⟩
        rw [h1, h2, h3, h4]
      · exact .inr ⟨h1, .inr ⟨h2, .inl h3⟩⟩
    · exact .inr ⟨h1, .inl h2⟩
  · exact .inl h1
theorem lists_ne {p1 p2 : List Px} {j : Nat} (h1 : j < p1.length) (h2 : j < p2.length) (h : p1[j] ≠ p2[j]) : p1 ≠ p2 := fun e => by subst e; exact h rfl
theorem lists_eq {p1 p2 : List Px} (hl : p1.length = p2.length) (h : ∀ q (h1 : q < p1.length) (h2 : q < p2.length), p1[q] = p2[q]) : p1 = p2 := List.ext_getElem hl (fun i a b => h i a b)

set_option maxHeartbeats 2000000 in
theorem sequal_any (A1 A2 : Option Addr) (p1 p2 : List Px) (c1 c2 : Nat) (w : World) (h1 : Rdp w A1 p1) (h2 : Rdp w A2 p2) (hl1 : p1.length ≤ 9223372036854775807) (hl2 : p2.length ≤ 9223372036854775807) :
    Calls Try.prog 54 #[.slice A1 p1.length c1, .slice A2 p2.length c2] w fun e w' => e = .returned (.bool (decide (p1 = p2))) ∧ Below w.heap.size w w' := by
  obtain ⟨n, hn⟩ : ∃ n, p1.length = n := ⟨_, rfl⟩
  obtain ⟨m, hm⟩ : ∃ m, p2.length = m := ⟨_, rfl⟩
  rw [hn] at hl1 ⊢
  rw [hm] at hl2 ⊢
  have H1 := Lib.hid h1
  have H2 := Lib.hid h2
  have HN1 := Lib.hid hn
  have HN2 := Lib.hid hm
  clear h1 h2
  by_cases hnm : n = m
  · subst hnm
    clear hn hm
    go_enter Try.func54, Try.ntmps54
    go_wp2_with fail
    go_loopg [13] n (fun k s13 wr => ∃ j : Nat, k = n - j ∧ j ≤ n ∧ s13 = .int .i64 j ∧ Below w.heap.size w wr ∧ Aside (∀ q (h1 : q < p1.length) (h2 : q < p2.length), q < j → p1[q] = p2[q]))
    case atStart => exact ⟨0, by omega, by omega, by first | rfl | simp, Below.refl _ _, fun q _ _ hq => by omega⟩
    case round =>
      obtain ⟨j, hk, hj, rfl, hB, HA⟩ := hrel
      by_cases hlt : j < n
      · obtain ⟨b1, o1, hA1, hbl1, c0, c1, c2, c3⟩ := H1.out j (by rw [HN1.out]; omega); replace c0 := (hB.cell (p := ⟨b1, o1 + j * 4, none⟩) hbl1).trans c0; replace c1 := (hB.cell (p := ⟨b1, o1 + j * 4 + 1, none⟩) hbl1).trans c1; replace c2 := (hB.cell (p := ⟨b1, o1 + j * 4 + 2, none⟩) hbl1).trans c2; replace c3 := (hB.cell (p := ⟨b1, o1 + j * 4 + 3, none⟩) hbl1).trans c3; obtain ⟨X, hX⟩ : ∃ X, p1[j]'(by rw [HN1.out]; omega) = X := ⟨_, rfl⟩; rw [hX] at c0 c1 c2 c3; have HX := Lib.hid hX; obtain ⟨xr, xg, xb, xa⟩ := X; simp only at c0 c1 c2 c3; obtain ⟨b2, o2, hA2, hbl2, d0, d1, d2, d3⟩ := H2.out j (by rw [HN2.out]; omega); replace d0 := (hB.cell (p := ⟨b2, o2 + j * 4, none⟩) hbl2).trans d0; replace d1 := (hB.cell (p := ⟨b2, o2 + j * 4 + 1, none⟩) hbl2).trans d1; replace d2 := (hB.cell (p := ⟨b2, o2 + j * 4 + 2, none⟩) hbl2).trans d2; replace d3 := (hB.cell (p := ⟨b2, o2 + j * 4 + 3, none⟩) hbl2).trans d3; obtain ⟨Y, hY⟩ : ∃ Y, p2[j]'(by rw [HN2.out]; omega) = Y := ⟨_, rfl⟩; rw [hY] at d0 d1 d2 d3; have HY := Lib.hid hY; obtain ⟨yr, yg, yb, ya⟩ := Y; simp only at d0 d1 d2 d3; clear hX hY; subst hA1; subst hA2
        by_cases hxy : (⟨xr, xg, xb, xa⟩ : Px) = ⟨yr, yg, yb, ya⟩
        · have HXY := Lib.hid hxy
          simp only [Px.mk.injEq] at hxy
          obtain ⟨rfl, rfl, rfl, rfl⟩ := hxy
          go_wp2_with fail
          go_quiet (fail)
          go_wp2_with fail
          go_roundg (n - (j + 1))
          case measure => omega
          case rel =>
            refine ⟨j + 1, by omega, by omega, by first | rfl | simp, bdrewN hB _, fun q h1 h2 hqj => ?_⟩
            by_cases hqe : q = j
            · subst hqe; rw [HX.out, HY.out]
            · exact HA.out q h1 h2 (by omega)
        · have HXY := Lib.hid hxy
          have hd := px_ne hxy
          clear hxy
          rcases hd with e1 | ⟨e1, e2 | ⟨e2, e3 | ⟨e3, e4⟩⟩⟩
          all_goals
            go_wp2_with fail
            go_quiet (fail)
            go_wp2_with fail
            go_ret
            refine ⟨?_, bdrewN hB _⟩
            rw [decide_eq_false (lists_ne (by rw [HN1.out]; omega) (by rw [HN2.out]; omega) (by rw [HX.out, HY.out]; exact HXY.out))]
            rfl
      · obtain rfl : n = j := by omega
        go_wp2_with fail
        go_ret
        refine ⟨?_, hB⟩
        rw [decide_eq_true (lists_eq (by rw [HN1.out, HN2.out]) (fun q h1 h2 => HA.out q h1 h2 (by rw [← HN1.out]; exact h1)))]
        rfl
  · have hne : p1 ≠ p2 := fun e => hnm (by rw [← hn, ← hm, e])
    have hb : ((n : Int) != (m : Int)) = true := by rw [bne_iff_ne]; omega
    clear hn hm
    rw [decide_eq_false hne]
    go_enter Try.func54, Try.ntmps54
    go_wp2_with fail
    go_ret
    exact ⟨rfl, Below.refl _ _⟩
set_option maxHeartbeats 2000000 in
theorem vequal_any (w1 h1 : Int) (A1 : Option Addr) (p1 : List Px) (k1 : Nat) (w2 h2 : Int) (A2 : Option Addr) (p2 : List Px) (k2 : Nat) (w : World) (r1 : Rdp w A1 p1) (r2 : Rdp w A2 p2) (hl1 : p1.length ≤ 9223372036854775807) (hl2 : p2.length ≤ 9223372036854775807) :
    Calls Try.prog 16 #[bufv w1 h1 (.slice A1 p1.length k1), bufv w2 h2 (.slice A2 p2.length k2)] w fun e w' => e = .returned (.bool (eqB w1 h1 p1 w2 h2 p2)) ∧ Below w.heap.size w w' := by
  obtain ⟨n, hn⟩ : ∃ n, p1.length = n := ⟨_, rfl⟩
  obtain ⟨m, hm⟩ : ∃ m, p2.length = m := ⟨_, rfl⟩
  rw [hn] at hl1 ⊢
  rw [hm] at hl2 ⊢
  have H1 := Lib.hid r1
  have H2 := Lib.hid r2
  have HN1 := Lib.hid hn
  have HN2 := Lib.hid hm
  clear r1 r2
  by_cases hww : w1 = w2
  · by_cases hhh : h1 = h2
    · by_cases hnm : n = m
      · subst hnm
        subst hww
        subst hhh
        clear hn hm
        go_enter Try.func16, Try.ntmps16
        go_wp2_with fail
        generalize hW : World.alloc (World.alloc _ _) _ = w0
        have hzW : w0.heap.size = w.heap.size + 1 + 1 := by subst hW; simp
        have hB0 : Below w.heap.size w w0 := by subst hW; (with_reducible repeat (first | assumption | exact Below.refl _ _ | refine Below.setCell ?_ (by first | omega | (simp; done) | (simp; omega)) _ | refine Below.drew ?_ | refine bdrewN ?_ _ | refine Below.alloc ?_ (by first | omega | (simp; done) | (simp; omega)) _))
        have K2 : Blk w0 w.heap.size 27 #[.int .i64 w1, .int .i64 h1, .slice A1 n k1] := by subst hW; (with_reducible repeat (first | assumption | (refine Blk.newAt ?_; first | rfl | (simp; done)) | refine Blk.alloc ?_ _ | refine Blk.drew ?_ | refine Blk.other ?_ (by simp) _))
        have K3 : Blk w0 (w.heap.size + 1) 27 #[.int .i64 w1, .int .i64 h1, .slice A2 n k2] := by subst hW; (with_reducible repeat (first | assumption | (refine Blk.newAt ?_; first | rfl | (simp; done)) | refine Blk.alloc ?_ _ | refine Blk.drew ?_ | refine Blk.other ?_ (by simp) _))
        have HK2 := Lib.hid K2
        have HK3 := Lib.hid K3
        have HB0 := Lib.hid hB0
        clear hW hzW hB0 K2 K3
        go_loopg [5] n (fun k s5 wr => ∃ j : Nat, k = n - j ∧ j ≤ n ∧ s5 = .int .i64 j ∧ Below w0.heap.size w0 wr ∧ Aside (∀ q (h1 : q < p1.length) (h2 : q < p2.length), q < j → p1[q] = p2[q]))
        case atStart => exact ⟨0, by omega, by omega, by first | rfl | simp, Below.refl _ _, fun q _ _ hq => by omega⟩
        case round =>
          obtain ⟨j, hk, hj, rfl, hBz, HA⟩ := hrel
          have hB : Below w.heap.size w wr := bon HB0.out HB0.out.size hBz
          obtain ⟨⟨u0, _⟩, ⟨u1, _⟩, u2, _⟩ := (Blk.below hBz HK2.out).c3
          obtain ⟨⟨v0, _⟩, ⟨v1, _⟩, v2, _⟩ := (Blk.below hBz HK3.out).c3
          by_cases hlt : j < n
          · obtain ⟨b1, o1, hA1, hbl1, c0, c1, c2, c3⟩ := H1.out j (by rw [HN1.out]; omega); replace c0 := (hB.cell (p := ⟨b1, o1 + j * 4, none⟩) hbl1).trans c0; replace c1 := (hB.cell (p := ⟨b1, o1 + j * 4 + 1, none⟩) hbl1).trans c1; replace c2 := (hB.cell (p := ⟨b1, o1 + j * 4 + 2, none⟩) hbl1).trans c2; replace c3 := (hB.cell (p := ⟨b1, o1 + j * 4 + 3, none⟩) hbl1).trans c3; obtain ⟨X, hX⟩ : ∃ X, p1[j]'(by rw [HN1.out]; omega) = X := ⟨_, rfl⟩; rw [hX] at c0 c1 c2 c3; have HX := Lib.hid hX; obtain ⟨xr, xg, xb, xa⟩ := X; simp only at c0 c1 c2 c3; obtain ⟨b2, o2, hA2, hbl2, d0, d1, d2, d3⟩ := H2.out j (by rw [HN2.out]; omega); replace d0 := (hB.cell (p := ⟨b2, o2 + j * 4, none⟩) hbl2).trans d0; replace d1 := (hB.cell (p := ⟨b2, o2 + j * 4 + 1, none⟩) hbl2).trans d1; replace d2 := (hB.cell (p := ⟨b2, o2 + j * 4 + 2, none⟩) hbl2).trans d2; replace d3 := (hB.cell (p := ⟨b2, o2 + j * 4 + 3, none⟩) hbl2).trans d3; obtain ⟨Y, hY⟩ : ∃ Y, p2[j]'(by rw [HN2.out]; omega) = Y := ⟨_, rfl⟩; rw [hY] at d0 d1 d2 d3; have HY := Lib.hid hY; obtain ⟨yr, yg, yb, ya⟩ := Y; simp only at d0 d1 d2 d3; clear hX hY; subst hA1; subst hA2
            by_cases hxy : (⟨xr, xg, xb, xa⟩ : Px) = ⟨yr, yg, yb, ya⟩
            · have HXY := Lib.hid hxy
              simp only [Px.mk.injEq] at hxy
              obtain ⟨rfl, rfl, rfl, rfl⟩ := hxy
              go_wp2_with fail
              go_quiet (fail)
              go_wp2_with fail
              go_roundg (n - (j + 1))
              case measure => omega
              case rel =>
                refine ⟨j + 1, by omega, by omega, by first | rfl | simp, bdrewN hBz _, fun q h1 h2 hqj => ?_⟩
                by_cases hqe : q = j
                · subst hqe; rw [HX.out, HY.out]
                · exact HA.out q h1 h2 (by omega)
            · have HXY := Lib.hid hxy
              have hd := px_ne hxy
              clear hxy
              rcases hd with e1 | ⟨e1, e2 | ⟨e2, e3 | ⟨e3, e4⟩⟩⟩
              all_goals
                go_wp2_with fail
                go_quiet (fail)
                go_wp2_with fail
                go_ret
                refine ⟨?_, bdrewN hB _⟩
                rw [eqB_p _ _ _ _ (lists_ne (by rw [HN1.out]; omega) (by rw [HN2.out]; omega) (by rw [HX.out, HY.out]; exact HXY.out))]
                rfl
          · obtain rfl : n = j := by omega
            go_wp2_with fail
            go_ret
            refine ⟨?_, hB⟩
            rw [eqB_yes rfl rfl (lists_eq (by rw [HN1.out, HN2.out]) (fun q h1 h2 => HA.out q h1 h2 (by rw [← HN1.out]; exact h1)))]
            rfl
      · have hne : p1 ≠ p2 := fun e => hnm (by rw [← hn, ← hm, e])
        have hb : ((n : Int) != (m : Int)) = true := by rw [bne_iff_ne]; omega
        clear hn hm
        rw [eqB_p _ _ _ _ hne]
        subst hww
        subst hhh
        go_enter Try.func16, Try.ntmps16
        go_wp2_with fail
        go_ret
        exact ⟨rfl, by (with_reducible repeat (first | assumption | exact Below.refl _ _ | refine Below.setCell ?_ (by first | omega | (simp; done) | (simp; omega)) _ | refine Below.drew ?_ | refine bdrewN ?_ _ | refine Below.alloc ?_ (by first | omega | (simp; done) | (simp; omega)) _))⟩
    · rw [eqB_h _ _ _ _ hhh]
      have hb : (h1 != h2) = true := by simpa using hhh
      subst hww
      clear hn hm hhh
      go_enter Try.func16, Try.ntmps16
      go_wp2_with fail
      go_ret
      exact ⟨rfl, by (with_reducible repeat (first | assumption | exact Below.refl _ _ | refine Below.setCell ?_ (by first | omega | (simp; done) | (simp; omega)) _ | refine Below.drew ?_ | refine bdrewN ?_ _ | refine Below.alloc ?_ (by first | omega | (simp; done) | (simp; omega)) _))⟩
  · rw [eqB_w _ _ _ _ hww]
    have hb : (w1 != w2) = true := by simpa using hww
    clear hn hm hww
    go_enter Try.func16, Try.ntmps16
    go_wp2_with fail
    go_ret
    exact ⟨rfl, by (with_reducible repeat (first | assumption | exact Below.refl _ _ | refine Below.setCell ?_ (by first | omega | (simp; done) | (simp; omega)) _ | refine Below.drew ?_ | refine bdrewN ?_ _ | refine Below.alloc ?_ (by first | omega | (simp; done) | (simp; omega)) _))⟩
set_option maxHeartbeats 2000000 in
theorem bequal_any (w1 h1 : Int) (A1 : Option Addr) (p1 : List Px) (k1 : Nat) (w2 h2 : Int) (A2 : Option Addr) (p2 : List Px) (k2 : Nat) (w : World) (r1 : Rdp w A1 p1) (r2 : Rdp w A2 p2) (hl1 : p1.length ≤ 9223372036854775807) (hl2 : p2.length ≤ 9223372036854775807) :
    Calls Try.prog 29 #[bufv w1 h1 (.slice A1 p1.length k1), bufv w2 h2 (.slice A2 p2.length k2)] w fun e w' => e = .returned (.bool (eqB w1 h1 p1 w2 h2 p2)) ∧ Below w.heap.size w w' := by
  have hC := fun W (hb : Below w.heap.size w W) => sequal_any A1 A2 p1 p2 k1 k2 W (r1.below hb) (r2.below hb) hl1 hl2
  obtain ⟨n, hn⟩ : ∃ n, p1.length = n := ⟨_, rfl⟩
  obtain ⟨m, hm⟩ : ∃ m, p2.length = m := ⟨_, rfl⟩
  rw [hn] at hl1 hC ⊢
  rw [hm] at hl2 hC ⊢
  clear hn hm r1 r2
  by_cases hww : w1 = w2
  · by_cases hhh : h1 = h2
    · have e1 : eqB w1 h1 p1 w2 h2 p2 = decide (p1 = p2) := by unfold eqB; rw [decide_eq_true hww, decide_eq_true hhh]; rfl
      rw [e1]
      clear e1
      generalize decide (p1 = p2) = bb at *
      have HC := Lib.hid hC
      subst hww
      subst hhh
      clear hC
      go_enter Try.func29, Try.ntmps29
      go_wp2_with fail
      refine (HC.out _ (by (with_reducible repeat (first | assumption | exact Below.refl _ _ | refine Below.setCell ?_ (by first | omega | (simp; done) | (simp; omega)) _ | refine Below.drew ?_ | refine bdrewN ?_ _ | refine Below.alloc ?_ (by first | omega | (simp; done) | (simp; omega)) _)))).mono ?_; rintro e wx ⟨rfl, hb_wx⟩
      have hB1 : Below w.heap.size w wx := bon (by (with_reducible repeat (first | assumption | exact Below.refl _ _ | refine Below.setCell ?_ (by first | omega | (simp; done) | (simp; omega)) _ | refine Below.drew ?_ | refine bdrewN ?_ _ | refine Below.alloc ?_ (by first | omega | (simp; done) | (simp; omega)) _))) (by simp; omega) hb_wx
      clear hb_wx
      go_wp2_with fail
      go_ret
      exact ⟨rfl, hB1⟩
    · rw [eqB_h _ _ _ _ hhh]
      have hb : (h1 == h2) = false := by simpa using hhh
      subst hww
      clear hhh hC
      go_enter Try.func29, Try.ntmps29
      go_wp2_with fail
      go_ret
      exact ⟨rfl, by (with_reducible repeat (first | assumption | exact Below.refl _ _ | refine Below.setCell ?_ (by first | omega | (simp; done) | (simp; omega)) _ | refine Below.drew ?_ | refine bdrewN ?_ _ | refine Below.alloc ?_ (by first | omega | (simp; done) | (simp; omega)) _))⟩
  · rw [eqB_w _ _ _ _ hww]
    have hb : (w1 == w2) = false := by simpa using hww
    clear hww hC
    go_enter Try.func29, Try.ntmps29
    go_wp2_with fail
    go_ret
    exact ⟨rfl, by (with_reducible repeat (first | assumption | exact Below.refl _ _ | refine Below.setCell ?_ (by first | omega | (simp; done) | (simp; omega)) _ | refine Below.drew ?_ | refine bdrewN ?_ _ | refine Below.alloc ?_ (by first | omega | (simp; done) | (simp; omega)) _))⟩
theorem lbsmall_any (bw bh : Int) (A : Option Addr) (n c : Nat) (w : World) (hn : n ≤ 9223372036854775807) : Calls Try.prog 22 #[bufv bw bh (.slice A n c)] w fun e w' => e = .returned (.bool (decide (n ≤ 400))) ∧ Below w.heap.size w w' := by
  by_cases h : n ≤ 400
  · rw [decide_eq_true h]
    go_enter Try.func22, Try.ntmps22
    go_wp2_with fail
    go_ret
    exact ⟨by first | rfl | (simp; omega), by (with_reducible repeat (first | assumption | exact Below.refl _ _ | refine Below.setCell ?_ (by first | omega | (simp; done) | (simp; omega)) _ | refine Below.drew ?_ | refine bdrewN ?_ _ | refine Below.alloc ?_ (by first | omega | (simp; done) | (simp; omega)) _))⟩
  · rw [decide_eq_false h]
    go_enter Try.func22, Try.ntmps22
    go_wp2_with fail
    go_ret
    exact ⟨by first | rfl | (simp; omega), by (with_reducible repeat (first | assumption | exact Below.refl _ _ | refine Below.setCell ?_ (by first | omega | (simp; done) | (simp; omega)) _ | refine Below.drew ?_ | refine bdrewN ?_ _ | refine Below.alloc ?_ (by first | omega | (simp; done) | (simp; omega)) _))⟩
end Go.Proofs.Ytgikmcgoaihggaa
