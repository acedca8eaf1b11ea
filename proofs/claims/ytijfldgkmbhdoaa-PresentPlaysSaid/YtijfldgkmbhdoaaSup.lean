/- superseded, of the program and of the reference. -/
import Derived.Test.YtijfldgkmbhdoaaNew
import Derived.Deep.LoopGhost
import Derived.WalkMore
set_option linter.unusedVariables false
set_option linter.unusedSimpArgs false
namespace Go.Proofs.Ytijfldgkmbhdoaa
open Go.RowKit
attribute [local go_sem ↓] Go.wp_at_zero Go.wp_at_succ

/-- Is a later commit of the same surface in the queue? -/
def supB (its : List Itm) (i : Nat) : Bool := (its.drop (i + 1)).any fun x => x.s == (its.getD i ⟨0, undef, []⟩).s

/-- A queue that is not empty, as a slice; the cells of its elements. -/
theorem Que.form {w : World} {B : Nat} {t : TypeId} {qv : Value} {its : List Itm} (k : Que w B t qv its) (hn : 0 < its.length) :
    ∃ g cap, qv = .slice (some ⟨g, 0, none⟩) its.length cap ∧ its.length ≤ cap ∧ cap ≤ 9223372036854775807 ∧ g < w.heap.size ∧
      ∀ j (hj : j < its.length), w.cell? ⟨g, j * 2, none⟩ = some (.int .i64 its[j].s) ∧ w.cell? ⟨g, j * 2 + 1, none⟩ = some its[j].cv ∧ ∃ ad m c, its[j].cv = .slice ad m c := by
  rcases k.row.2 with ⟨_, h0⟩ | ⟨g, cap, cur, rfl, hbg, hg, h1, h2, _⟩
  · omega
  · refine ⟨g, cap, rfl, h1, by simp only [maxLen] at h2; omega, (Array.getElem?_eq_some_iff.1 hg).1, fun j hj => ?_⟩
    rw [k.row.cellAt (j * 2) (by omega), k.row.cellAt (j * 2 + 1) (by omega)]
    obtain ⟨e1, e2⟩ := itCells_get its j hj
    obtain ⟨ad, c, e3, _⟩ := slice_len (k.cbs _ (List.getElem_mem hj)).row
    exact ⟨e1, e2, _, _, _, e3⟩

theorem supB_no (its : List Itm) (i : Nat) (h : ∀ q, i + 1 + q < its.length → (its.getD (i + 1 + q) ⟨0, undef, []⟩).s ≠ (its.getD i ⟨0, undef, []⟩).s) : supB its i = false := by
  unfold supB
  rw [List.any_eq_false]
  intro x hx
  obtain ⟨q, hq, rfl⟩ := List.getElem_of_mem hx
  rw [List.length_drop] at hq
  have := h q (by omega)
  rw [List.getElem_drop]
  rw [List.getD_eq_getElem?_getD, List.getElem?_eq_getElem (by omega), Option.getD_some] at this
  simpa using this
theorem supB_yes (its : List Itm) (i q : Nat) (hq : i + 1 + q < its.length) (h : (its.getD (i + 1 + q) ⟨0, undef, []⟩).s = (its.getD i ⟨0, undef, []⟩).s) : supB its i = true := by
  unfold supB
  rw [List.any_eq_true]
  refine ⟨its[i + 1 + q], ?_, ?_⟩
  · rw [← List.getElem_drop (h := by rw [List.length_drop]; omega)]
    exact List.getElem_mem _
  · rw [List.getD_eq_getElem?_getD, List.getElem?_eq_getElem hq, Option.getD_some] at h
    simpa using h
set_option maxHeartbeats 1000000 in
theorem psuperseded_ok (B p : Nat) (iv now : Int) (qv : Value) (its : List Itm) (w : World) (k : Clk w B p iv now qv its) (i : Nat) (hi : i < its.length) :
    Calls Try.prog 47 #[.pointer (some ⟨p, 0, none⟩), .int .i64 i] w fun e w' => e = .returned (.bool (supB its i)) ∧ Below w.heap.size w w' := by
  obtain ⟨⟨c0, _⟩, ⟨c1, _⟩, c2, _⟩ := k.blk.c3
  have hpl := k.blk.lt
  obtain ⟨g, cap, rfl, hcap, hcm, hgl, hcl⟩ := k.que.form (by omega)
  have hl := k.que.len
  clear k c0 c1
  have HCL := Lib.hid hcl
  clear hcl
  obtain ⟨n, hn⟩ : ∃ n, its.length = n := ⟨_, rfl⟩
  rw [hn] at hi hcap hl c2
  have HN := Lib.hid hn
  clear hn
  by_cases hce : cap = i + 1
  · obtain rfl : n = i + 1 := by omega
    subst hce
    have h0 : supB its i = false := by unfold supB; rw [List.drop_of_length_le (by rw [HN.out]; omega)]; rfl
    rw [h0]
    clear h0
    go_enter Try.func47, Try.ntmps47
    go_wp2; go_step3; go_wp2; go_step3; go_wp2
    refine wp_loop_rounds 1 ?_
    rw [rounds_succ]
    go_wp2
    rw [Exit.noGoto_ret]
    go_ret
    exact ⟨rfl, Below.refl _ _⟩
  · obtain ⟨m, rfl⟩ : ∃ m, n = i + 1 + m := ⟨n - (i + 1), by omega⟩
    have h0 : ¬ cap = i + 1 := hce
    have hw : ∀ j (hj : j < m), (its.drop (i + 1))[j]'(by rw [List.length_drop, HN.out]; omega) = its[i + 1 + j]'(by rw [HN.out]; omega) := fun j hj => by simp
    have HW := Lib.hid hw
    clear hw
    go_enter Try.func47, Try.ntmps47
    go_wp2; go_step3; go_wp2; go_step3; go_wp2
    go_loopg [5, 16] m (fun k s5 s16 wr => ∃ j : Nat, k = m - j ∧ j ≤ m ∧ s16 = .int .i64 j ∧ s5 = .bool false ∧ Below w.heap.size w wr ∧ Aside (∀ q, q < j → (its.getD (i + 1 + q) ⟨0, undef, []⟩).s ≠ (its.getD i ⟨0, undef, []⟩).s))
    case atStart => exact ⟨0, by omega, by omega, by first | rfl | simp, rfl, Below.refl _ _, fun q hq => by omega⟩
    case round =>
      obtain ⟨j, hk, hj, rfl, rfl, hB, HA⟩ := hrel
      by_cases hlt : j < m
      · obtain ⟨q0, q1, qa, qm, qc, q4⟩ := HCL.out (i + 1 + j) (by rw [HN.out]; omega)
        obtain ⟨q2, q3, _⟩ := HCL.out i (by rw [HN.out]; omega)
        rw [show (i + 1 + j) * 2 = (i + 1) * 2 + j * 2 by omega] at q0 q1
        have e1 : its.getD (i + 1 + j) ⟨0, undef, []⟩ = its[i + 1 + j]'(by rw [HN.out]; omega) := by simp [HN.out, hlt]
        have e2 : its.getD i ⟨0, undef, []⟩ = its[i]'(by rw [HN.out]; omega) := by simp [HN.out, hi]
        rw [← e1] at q0 q1 q4
        rw [← e2] at q2 q3
        clear e1 e2 q3
        have c2' : wr.cell? ⟨p, 2, none⟩ = some (.slice (some ⟨g, 0, none⟩) (i + 1 + m) cap) := (hB.cell (p := ⟨p, 2, none⟩) hpl).trans c2
        replace q0 := (hB.cell (p := ⟨g, (i + 1) * 2 + j * 2, none⟩) hgl).trans q0
        replace q1 := (hB.cell (p := ⟨g, (i + 1) * 2 + j * 2 + 1, none⟩) hgl).trans q1
        replace q2 := (hB.cell (p := ⟨g, i * 2, none⟩) hgl).trans q2
        have hzr := hB.size
        have hgr : g < wr.heap.size := by omega
        have hpr : p < wr.heap.size := by omega
        clear c2
        obtain ⟨X, hX⟩ : ∃ X, its.getD (i + 1 + j) ⟨0, undef, []⟩ = X := ⟨_, rfl⟩
        obtain ⟨Y, hY⟩ : ∃ Y, its.getD i ⟨0, undef, []⟩ = Y := ⟨_, rfl⟩
        rw [hX] at q0 q1 q4
        rw [hY] at q2
        obtain ⟨xs, xv, xc⟩ := X
        obtain ⟨ys, yv, yc⟩ := Y
        have HX := Lib.hid hX
        have HY := Lib.hid hY
        clear hX hY
        simp only at q0 q1 q2 q4
        subst q4
        by_cases hab : xs = ys
        · subst hab
          go_wp2
          go_quiet (fail)
          go_wp2
          rw [Exit.noGoto_ret]
          go_ret
          refine ⟨?_, bdrewN (hB.alloc hB.size _) _⟩
          rw [supB_yes its i j (by rw [HN.out]; omega) (by rw [HX.out, HY.out])]
          rfl
        · have hab' : (xs == ys) = false := by simpa using hab
          go_wp2
          go_quiet (fail)
          go_wp2
          go_roundg (m - (j + 1))
          case measure => omega
          case rel =>
            refine ⟨j + 1, by omega, by omega, by first | rfl | simp, rfl, bdrewN (hB.alloc hB.size _) _, fun q hq => ?_⟩
            by_cases hqj : q = j
            · subst hqj
              rw [HX.out, HY.out]
              exact hab
            · exact HA.out q (by omega)
      · obtain rfl : m = j := by omega
        go_wp2
        rw [Exit.noGoto_ret]
        go_ret
        refine ⟨?_, hB⟩
        rw [supB_no its i (fun q hq => HA.out q (by rw [HN.out] at hq; omega))]
        rfl

set_option maxHeartbeats 1000000 in
theorem rsuperseded_ok (md : Bool) (B : Nat) (iv last : Int) (qv : Value) (its : List Itm) (w : World) (k : Que w B 87 qv its) (i : Nat) (hi : i < its.length) :
    Calls Try.prog 49 #[rclk md iv last qv, .int .i64 i] w fun e w' => e = .returned (.bool (supB its i)) ∧ Below w.heap.size w w' := by
  obtain ⟨g, cap, rfl, hcap, hcm, hgl, hcl⟩ := k.form (by omega)
  have hl := k.len
  clear k
  have HCL := Lib.hid hcl
  clear hcl
  obtain ⟨n, hn⟩ : ∃ n, its.length = n := ⟨_, rfl⟩
  rw [hn] at hi hcap hl
  have HN := Lib.hid hn
  rw [hn]
  clear hn
  obtain ⟨m, rfl⟩ : ∃ m, n = i + 1 + m := ⟨n - (i + 1), by omega⟩
  go_enter Try.func49, Try.ntmps49
  go_wp2
  generalize hW0 : (w.alloc (.cells #[.bool md, .int .i64 iv, .int .i64 last, .slice (some ⟨g, 0, none⟩) (i + 1 + m) cap] 57)) = w0
  have hb0 : Below w.heap.size w w0 := by subst hW0; (with_reducible repeat (first | assumption | exact Below.refl _ _ | refine Below.setCell ?_ (by first | omega | (simp; done) | (simp; omega)) _ | refine Below.drew ?_ | refine bdrewN ?_ _ | refine Below.alloc ?_ (by first | omega | (simp; done) | (simp; omega)) _))
  have K0 : Blk w0 w.heap.size 57 #[.bool md, .int .i64 iv, .int .i64 last, .slice (some ⟨g, 0, none⟩) (i + 1 + m) cap] := by subst hW0; exact Blk.new _ _ _
  clear hW0
  go_loopg [5] m (fun k s5 wr => ∃ j : Nat, k = m - j ∧ j ≤ m ∧ s5 = .int .i64 (i + 1 + j : Nat) ∧ Below w0.heap.size w0 wr ∧ Aside (∀ q, q < j → (its.getD (i + 1 + q) ⟨0, undef, []⟩).s ≠ (its.getD i ⟨0, undef, []⟩).s))
  case atStart => exact ⟨0, by omega, by omega, by first | rfl | simp, Below.refl _ _, fun q hq => by omega⟩
  case round =>
    obtain ⟨j, hk, hj, rfl, hB, HA⟩ := hrel
    have hB0 : Below w.heap.size w wr := bthen hb0 hB
    obtain ⟨⟨c0, _⟩, ⟨c1, _⟩, ⟨c2, _⟩, c3, _⟩ := (Blk.below hB K0).c4
    by_cases hlt : j < m
    · obtain ⟨q0, q1, qa, qm, qc, q4⟩ := HCL.out (i + 1 + j) (by rw [HN.out]; omega)
      obtain ⟨q2, q3, _⟩ := HCL.out i (by rw [HN.out]; omega)
      have e1 : its.getD (i + 1 + j) ⟨0, undef, []⟩ = its[i + 1 + j]'(by rw [HN.out]; omega) := by simp [HN.out, hlt]
      have e2 : its.getD i ⟨0, undef, []⟩ = its[i]'(by rw [HN.out]; omega) := by simp [HN.out, hi]
      rw [← e1] at q0 q1 q4
      rw [← e2] at q2 q3
      clear e1 e2 q3 q1
      replace q0 := (hB0.cell (p := ⟨g, (i + 1 + j) * 2, none⟩) hgl).trans q0
      replace q2 := (hB0.cell (p := ⟨g, i * 2, none⟩) hgl).trans q2
      obtain ⟨X, hX⟩ : ∃ X, its.getD (i + 1 + j) ⟨0, undef, []⟩ = X := ⟨_, rfl⟩
      obtain ⟨Y, hY⟩ : ∃ Y, its.getD i ⟨0, undef, []⟩ = Y := ⟨_, rfl⟩
      rw [hX] at q0 q4
      rw [hY] at q2
      obtain ⟨xs, xv, xc⟩ := X
      obtain ⟨ys, yv, yc⟩ := Y
      have HX := Lib.hid hX
      have HY := Lib.hid hY
      clear hX hY
      simp only at q0 q2 q4
      subst q4
      by_cases hab : xs = ys
      · subst hab
        go_wp2
        go_quiet (fail)
        go_wp2
        go_ret
        refine ⟨?_, bdrewN hB0 _⟩
        rw [supB_yes its i j (by rw [HN.out]; omega) (by rw [HX.out, HY.out])]
        rfl
      · have hab' : (xs == ys) = false := by simpa using hab
        go_wp2
        go_quiet (fail)
        go_wp2
        go_roundg (m - (j + 1))
        case measure => omega
        case rel =>
          refine ⟨j + 1, by omega, by omega, by first | rfl | (simp; omega), bdrewN hB _, fun q hq => ?_⟩
          by_cases hqj : q = j
          · subst hqj
            rw [HX.out, HY.out]
            exact hab
          · exact HA.out q (by omega)
    · obtain rfl : m = j := by omega
      go_wp2
      go_ret
      refine ⟨?_, hB0⟩
      rw [supB_no its i (fun q hq => HA.out q (by rw [HN.out] at hq; omega))]
      rfl
end Go.Proofs.Ytijfldgkmbhdoaa
