/- numbers, deliveries: two equal lists are found equal. -/
import Derived.Test.YtijfldgkmbhdoaaDisc
import Derived.Test.YtijfldgkmbhdoaaFeedW
set_option linter.unusedVariables false
set_option linter.unusedSimpArgs false
namespace Go.Proofs.Ytijfldgkmbhdoaa
open Go.RowKit
attribute [local go_sem ↓] Go.wp_at_zero Go.wp_at_succ

theorem U32s.rd {w : World} {B n c : Nat} {A : Option Addr} {zs : List Int} (h : U32s w B (.slice A n c) zs) : Rd w .u32 A zs := fun j hj => by
  obtain ⟨g, rfl, hl, hc⟩ := h.form (by omega)
  exact ⟨g, 0, rfl, hl, by rw [Nat.zero_add]; exact hc j hj⟩
set_option maxRecDepth 100000 in
set_option maxHeartbeats 1000000 in
theorem numbers_same (A A' : Option Addr) (c c' : Nat) (zs : List Int) (w : World) (h : Rd w .u32 A zs) (h' : Rd w .u32 A' zs) (hl : zs.length ≤ 1000000) :
    Calls Try.prog 29 #[.slice A zs.length c, .slice A' zs.length c'] w fun e w' => e = .returned (.bool true) ∧ Below w.heap.size w w' := by
  obtain ⟨n, hn⟩ : ∃ n, zs.length = n := ⟨_, rfl⟩
  rw [hn] at hl ⊢
  have HN := Lib.hid hn
  have H := Lib.hid h
  have H' := Lib.hid h'
  clear hn h h'
  go_enter Try.func29, Try.ntmps29
  go_wp2_with fail
  go_loopg [5] n (fun k s5 wr => ∃ j : Nat, k = n - j ∧ j ≤ n ∧ s5 = .int .i64 j ∧ Below w.heap.size w wr)
  case atStart => exact ⟨0, by omega, by omega, by first | rfl | simp, Below.refl _ _⟩
  case round =>
    obtain ⟨j, hk, hj, rfl, hB⟩ := hrel
    by_cases hlt : j < n
    · obtain ⟨b, o, hA, hbl, hc⟩ := H.out j (by rw [HN.out]; omega)
      obtain ⟨b', o', hA', hbl', hc'⟩ := H'.out j (by rw [HN.out]; omega)
      obtain ⟨z, hz⟩ : ∃ z, zs[j]'(by rw [HN.out]; omega) = z := ⟨_, rfl⟩
      rw [hz] at hc hc'
      replace hc := (hB.cell (p := ⟨b, o + j, none⟩) hbl).trans hc
      replace hc' := (hB.cell (p := ⟨b', o' + j, none⟩) hbl').trans hc'
      clear hz
      subst hA
      subst hA'
      go_wp2_with fail
      go_quiet (fail)
      go_wp2_with fail
      go_roundg (n - (j + 1))
      case measure => omega
      case rel => exact ⟨j + 1, by omega, by omega, by first | rfl | simp, bdrewN hB _⟩
    · obtain rfl : n = j := by omega
      go_wp2_with fail
      go_ret
      exact ⟨rfl, hB⟩
set_option maxRecDepth 100000 in
set_option maxHeartbeats 4000000 in
theorem deliveries_same (B B' : Nat) (v v' : Value) (l : List Dl) (w : World) (h : w.ownsRow B 48 9 v l.length (dlCells l)) (h' : w.ownsRow B' 48 9 v' l.length (dlCells l)) :
    Calls Try.prog 32 #[v, v'] w fun e w' => e = .returned (.bool true) ∧ Below w.heap.size w w' := by
  obtain ⟨A, c, rfl, _, hl⟩ := slice_len h
  obtain ⟨A', c', rfl, _, _⟩ := slice_len h'
  obtain ⟨n, hn⟩ : ∃ n, l.length = n := ⟨_, rfl⟩
  rw [hn] at hl ⊢
  have HN := Lib.hid hn
  have H := Lib.hid h
  have H' := Lib.hid h'
  clear hn h h'
  go_enter Try.func32, Try.ntmps32
  go_wp2_with fail
  go_loopg [5] n (fun k s5 wr => ∃ j : Nat, k = n - j ∧ j ≤ n ∧ s5 = .int .i64 j ∧ Below w.heap.size w wr)
  case atStart => exact ⟨0, by omega, by omega, by first | rfl | simp, Below.refl _ _⟩
  case round =>
    obtain ⟨j, hk, hj, rfl, hB⟩ := hrel
    by_cases hlt : j < n
    · obtain ⟨g, hA, hc⟩ := dl_at H.out (by rw [HN.out]; omega)
      obtain ⟨g', hA', hc'⟩ := dl_at H'.out (by rw [HN.out]; omega)
      have hd : l[j]? = some (l[j]'(by rw [HN.out]; omega)) := List.getElem?_eq_getElem _
      obtain ⟨d, hdd⟩ : ∃ d, l[j]'(by rw [HN.out]; omega) = d := ⟨_, rfl⟩
      rw [hdd] at hd
      obtain ⟨ds, dk, dt, dc⟩ := d
      have up : ∀ {b o : Nat} {u : Value}, w.cell? ⟨b, o, none⟩ = some u → wr.cell? ⟨b, o, none⟩ = some u := fun {b o u} hh => (hB.cell (p := ⟨b, o, none⟩) (World.block_lt_of_cell? w _ hh)).trans hh
      have x0 := up (hc _ _ 0 _ hd (by omega) rfl)
      have x1 := up (hc _ _ 1 _ hd (by omega) rfl)
      have x2 := up (hc _ _ 2 _ hd (by omega) rfl)
      have x3 := up (hc _ _ 3 _ hd (by omega) rfl)
      have x4 := up (hc _ _ 4 _ hd (by omega) rfl)
      have x5 := up (hc _ _ 5 _ hd (by omega) rfl)
      have x6 := up (hc _ _ 6 _ hd (by omega) rfl)
      have x7 := up (hc _ _ 7 _ hd (by omega) rfl)
      have x8 := up (hc _ _ 8 _ hd (by omega) rfl)
      have y0 := up (hc' _ _ 0 _ hd (by omega) rfl)
      have y1 := up (hc' _ _ 1 _ hd (by omega) rfl)
      have y2 := up (hc' _ _ 2 _ hd (by omega) rfl)
      have y3 := up (hc' _ _ 3 _ hd (by omega) rfl)
      have y4 := up (hc' _ _ 4 _ hd (by omega) rfl)
      have y5 := up (hc' _ _ 5 _ hd (by omega) rfl)
      have y6 := up (hc' _ _ 6 _ hd (by omega) rfl)
      have y7 := up (hc' _ _ 7 _ hd (by omega) rfl)
      have y8 := up (hc' _ _ 8 _ hd (by omega) rfl)
      simp only [Nat.add_zero] at x0 x1 x2 x3 x4 x5 x6 x7 x8 y0 y1 y2 y3 y4 y5 y6 y7 y8
      clear up hc hc' hd hdd
      subst hA
      subst hA'
      go_wp2_with fail
      go_quiet (fail)
      go_wp2_with fail
      go_roundg (n - (j + 1))
      case measure => omega
      case rel => exact ⟨j + 1, by omega, by omega, by first | rfl | simp, bdrewN hB _⟩
    · obtain rfl : n = j := by omega
      go_wp2_with fail
      go_ret
      exact ⟨rfl, hB⟩
end Go.Proofs.Ytijfldgkmbhdoaa
