/- Valid, of the program and of the reference. -/
import Derived.Test.YtgikmcgoaihggaaBuf
import Derived.Test.YtgikmcgoaihggaaFresh
import Derived.Deep.LoopGhost
import Derived.Deep.RegionWith
import Derived.BigQuiet
import Derived.WalkMore
set_option linter.unusedVariables false
set_option linter.unusedSimpArgs false
namespace Go.Proofs.Ytgikmcgoaihggaa
open Go.RowKit Go.Sort
attribute [local go_sem ↓] Go.wp_at_zero Go.wp_at_succ
attribute [local go_sem] calm calmAt calmUpon

theorem cell_regrown {w : World} {b o : Nat} {v : Value} (h : w.cell? ⟨b, o, none⟩ = some v) : ∀ d os, (grow (redrawn w d) os).cell? ⟨b, o, none⟩ = some v :=
  fun d os => ((below_regrown w d os).cell (p := ⟨b, o, none⟩) (World.block_lt_of_cell? w _ h)).trans h
theorem asB {P : Program} {f : FuncId} {args : Array Value} {w : World} {v : Value} (h : Calls P f args w fun e w' => e = .returned v ∧ w = w') : Calls P f args w fun e w' => e = .returned v ∧ Below w.heap.size w w' :=
  h.mono fun _ _ ⟨h1, h2⟩ => ⟨h1, h2 ▸ Below.refl _ _⟩
theorem bsize_any (n : Int) (w : World) : Calls Try.prog 39 #[.int .i64 n] w fun e w' => e = .returned (.bool (szB n)) ∧ w = w' := by
  by_cases h1 : 1 ≤ n
  · by_cases h2 : n ≤ 256
    · have h : szB n = true := (szB_iff n).2 ⟨h1, h2⟩
      rw [h]
      clear h
      go_enter Try.func39, Try.ntmps39
      go_wp2
      go_ret
      exact ⟨rfl, rfl⟩
    · have h : szB n = false := by rw [← Bool.not_eq_true, szB_iff]; omega
      rw [h]
      clear h
      go_enter Try.func39, Try.ntmps39
      go_wp2
      go_ret
      exact ⟨rfl, rfl⟩
  · have h : szB n = false := by rw [← Bool.not_eq_true, szB_iff]; omega
    rw [h]
    clear h
    go_enter Try.func39, Try.ntmps39
    go_wp2
    go_ret
    exact ⟨rfl, rfl⟩
set_option maxHeartbeats 1000000 in
theorem vsize_any (m n : Int) (w : World) : Calls Try.prog 41 #[.int .i64 m, .int .i64 n] w fun e w' => e = .returned (.bool (szB m && szB n)) ∧ w = w' := by
  by_cases h1 : 1 ≤ m
  · by_cases h2 : m ≤ 256
    · by_cases h3 : 1 ≤ n
      · by_cases h4 : n ≤ 256
        · have h : (szB m && szB n) = true := by rw [Bool.and_eq_true, szB_iff, szB_iff]; omega
          rw [h]
          clear h
          go_enter Try.func41, Try.ntmps41
          go_wp2
          go_ret
          exact ⟨rfl, rfl⟩
        · have h : (szB m && szB n) = false := by rw [← Bool.not_eq_true, Bool.and_eq_true, szB_iff, szB_iff]; omega
          rw [h]
          clear h
          go_enter Try.func41, Try.ntmps41
          go_wp2
          go_ret
          exact ⟨rfl, rfl⟩
      · have h : (szB m && szB n) = false := by rw [← Bool.not_eq_true, Bool.and_eq_true, szB_iff, szB_iff]; omega
        rw [h]
        clear h
        go_enter Try.func41, Try.ntmps41
        go_wp2
        go_ret
        exact ⟨rfl, rfl⟩
    · have h : (szB m && szB n) = false := by rw [← Bool.not_eq_true, Bool.and_eq_true, szB_iff, szB_iff]; omega
      rw [h]
      clear h
      go_enter Try.func41, Try.ntmps41
      go_wp2
      go_ret
      exact ⟨rfl, rfl⟩
  · have h : (szB m && szB n) = false := by rw [← Bool.not_eq_true, Bool.and_eq_true, szB_iff, szB_iff]; omega
    rw [h]
    clear h
    go_enter Try.func41, Try.ntmps41
    go_wp2
    go_ret
    exact ⟨rfl, rfl⟩
theorem vld_no {r g b a : Int} (h : vldB ⟨r, g, b, a⟩ = false) : (min r a == r) = false ∨ (min g a == g) = false ∨ (min b a == b) = false := by
  have h' : ¬ (r ≤ a ∧ g ≤ a ∧ b ≤ a) := fun k => by rw [(vldB_iff ⟨r, g, b, a⟩).2 k] at h; cases h
  simp only [beq_eq_false_iff_ne, ne_eq]
  omega
set_option maxHeartbeats 1000000 in
theorem pxvalid_any (r g b a : Int) (w : World) :
    Calls Try.prog 53 #[px r g b a] w fun e w' => e = .returned (.bool (vldB ⟨r, g, b, a⟩)) ∧ Below w.heap.size w w' := by
  cases hv : vldB ⟨r, g, b, a⟩ with
  | true =>
    have h := (vldB_iff ⟨r, g, b, a⟩).1 hv
    simp only at h
    obtain ⟨h1, h2, h3⟩ := h
    have hC := fun W => clamp_any r g b a W
    rw [show min r a = r by omega, show min g a = g by omega, show min b a = b by omega] at hC
    have HC := Lib.hid hC
    clear hC hv
    go_enter Try.func53, Try.ntmps53
    go_wp2_with fail
    have K : Blk (w.alloc (.cells #[.int .u8 r, .int .u8 g, .int .u8 b, .int .u8 a] 43)) w.heap.size 43 #[.int .u8 r, .int .u8 g, .int .u8 b, .int .u8 a] := Blk.new _ _ _
    obtain ⟨⟨c0, _⟩, ⟨c1, _⟩, ⟨c2, _⟩, c3, _⟩ := K.c4
    have g0 := cell_regrown c0
    have g1 := cell_regrown c1
    have g2 := cell_regrown c2
    have g3 := cell_regrown c3
    (refine wp_region_calm 3 [] [false, false, false] (by kernel_rfl) (by kernel_rfl) (by decide) (freshOk_of (by kernel_rfl) (by kernel_rfl) (fun x hx => by cases hx)) ?_; simp only [List.take_succ_cons, List.take_zero, List.drop_succ_cons, List.drop_zero, List.zip_cons_cons, List.zip_nil_left, List.zip_nil_right]; (repeat (first | refine wpCalm_pass ?_ | (refine wpCalm_step (fun K hK => ?_); go_simp; first | (refine hK _ ?_; clear hK K) | (apply Exists.intro; refine ⟨fun _ => ?_, hK _ ?_⟩; (exact HC.out _); clear hK K)))); (first | refine wpCalm_nil ?_ | skip))
    intro F wx hF
    obtain rfl := hF.nil
    have hB : Below w.heap.size w wx := bon (by (with_reducible repeat (first | assumption | exact Below.refl _ _ | refine Below.setCell ?_ (by first | omega | (simp; done) | (simp; omega)) _ | refine Below.drew ?_ | refine bdrewN ?_ _ | refine Below.alloc ?_ (by first | omega | (simp; done) | (simp; omega)) _))) (by simp) hF.below
    clear g0 g1 g2 g3 c0 c1 c2 c3 K hF
    unfold putL
    go_wp2_with fail
    go_ret
    exact ⟨rfl, hB⟩
  | false =>
    have h := vld_no hv
    have hC := fun W => clamp_any r g b a W
    generalize min r a = r' at *
    generalize min g a = g' at *
    generalize min b a = b' at *
    have HC := Lib.hid hC
    clear hC hv
    have K : Blk (w.alloc (.cells #[.int .u8 r, .int .u8 g, .int .u8 b, .int .u8 a] 43)) w.heap.size 43 #[.int .u8 r, .int .u8 g, .int .u8 b, .int .u8 a] := Blk.new _ _ _
    have HK := Lib.hid K
    clear K
    have hB0 : Below w.heap.size w (w.alloc (.cells #[.int .u8 r, .int .u8 g, .int .u8 b, .int .u8 a] 43)) := (Below.refl _ _).alloc (Nat.le_refl _) _
    have HB0 := Lib.hid hB0
    clear hB0
    by_cases h1 : (r' == r) = false
    · clear h
      go_enter Try.func53, Try.ntmps53
      go_wp2_with fail
      obtain ⟨⟨c0, _⟩, ⟨c1, _⟩, ⟨c2, _⟩, c3, _⟩ := HK.out.c4
      have g0 := cell_regrown c0
      have g1 := cell_regrown c1
      have g2 := cell_regrown c2
      have g3 := cell_regrown c3
      (refine wp_region_calm 3 [] [false, false, false] (by kernel_rfl) (by kernel_rfl) (by decide) (freshOk_of (by kernel_rfl) (by kernel_rfl) (fun x hx => by cases hx)) ?_; simp only [List.take_succ_cons, List.take_zero, List.drop_succ_cons, List.drop_zero, List.zip_cons_cons, List.zip_nil_left, List.zip_nil_right]; (repeat (first | refine wpCalm_pass ?_ | (refine wpCalm_step (fun K hK => ?_); go_simp; first | (refine hK _ ?_; clear hK K) | (apply Exists.intro; refine ⟨fun _ => ?_, hK _ ?_⟩; (exact HC.out _); clear hK K)))); (first | refine wpCalm_nil ?_ | skip))
      intro F wx hF
      obtain rfl := hF.nil
      have hB : Below w.heap.size w wx := bon HB0.out (by simp) hF.below
      clear g0 g1 g2 g3 c0 c1 c2 c3 hF
      unfold putL
      go_wp2_with fail
      go_ret
      exact ⟨rfl, hB⟩
    · have h1' : (r' == r) = true := by simpa using h1
      by_cases h2 : (g' == g) = false
      · clear h h1
        go_enter Try.func53, Try.ntmps53
        go_wp2_with fail
        obtain ⟨⟨c0, _⟩, ⟨c1, _⟩, ⟨c2, _⟩, c3, _⟩ := HK.out.c4
        have g0 := cell_regrown c0
        have g1 := cell_regrown c1
        have g2 := cell_regrown c2
        have g3 := cell_regrown c3
        (refine wp_region_calm 3 [] [false, false, false] (by kernel_rfl) (by kernel_rfl) (by decide) (freshOk_of (by kernel_rfl) (by kernel_rfl) (fun x hx => by cases hx)) ?_; simp only [List.take_succ_cons, List.take_zero, List.drop_succ_cons, List.drop_zero, List.zip_cons_cons, List.zip_nil_left, List.zip_nil_right]; (repeat (first | refine wpCalm_pass ?_ | (refine wpCalm_step (fun K hK => ?_); go_simp; first | (refine hK _ ?_; clear hK K) | (apply Exists.intro; refine ⟨fun _ => ?_, hK _ ?_⟩; (exact HC.out _); clear hK K)))); (first | refine wpCalm_nil ?_ | skip))
        intro F wx hF
        obtain rfl := hF.nil
        have hB : Below w.heap.size w wx := bon HB0.out (by simp) hF.below
        clear g0 g1 g2 g3 c0 c1 c2 c3 hF
        unfold putL
        go_wp2_with fail
        go_ret
        exact ⟨rfl, hB⟩
      · have h2' : (g' == g) = true := by simpa using h2
        have h3 : (b' == b) = false := by rcases h with h | h | h; exact absurd h h1; exact absurd h h2; exact h
        clear h h1 h2
        go_enter Try.func53, Try.ntmps53
        go_wp2_with fail
        obtain ⟨⟨c0, _⟩, ⟨c1, _⟩, ⟨c2, _⟩, c3, _⟩ := HK.out.c4
        have g0 := cell_regrown c0
        have g1 := cell_regrown c1
        have g2 := cell_regrown c2
        have g3 := cell_regrown c3
        (refine wp_region_calm 3 [] [false, false, false] (by kernel_rfl) (by kernel_rfl) (by decide) (freshOk_of (by kernel_rfl) (by kernel_rfl) (fun x hx => by cases hx)) ?_; simp only [List.take_succ_cons, List.take_zero, List.drop_succ_cons, List.drop_zero, List.zip_cons_cons, List.zip_nil_left, List.zip_nil_right]; (repeat (first | refine wpCalm_pass ?_ | (refine wpCalm_step (fun K hK => ?_); go_simp; first | (refine hK _ ?_; clear hK K) | (apply Exists.intro; refine ⟨fun _ => ?_, hK _ ?_⟩; (exact HC.out _); clear hK K)))); (first | refine wpCalm_nil ?_ | skip))
        intro F wx hF
        obtain rfl := hF.nil
        have hB : Below w.heap.size w wx := bon HB0.out (by simp) hF.below
        clear g0 g1 g2 g3 c0 c1 c2 c3 hF
        unfold putL
        go_wp2_with fail
        go_ret
        exact ⟨rfl, hB⟩
set_option maxHeartbeats 1000000 in
theorem r8valid_any (r g b a : Int) (w : World) :
    Calls Try.prog 50 #[px r g b a] w fun e w' => e = .returned (.bool (vldB ⟨r, g, b, a⟩)) ∧ Below w.heap.size w w' := by
  by_cases h1 : r ≤ a
  · by_cases h2 : g ≤ a
    · by_cases h3 : b ≤ a
      · rw [(vldB_iff ⟨r, g, b, a⟩).2 ⟨h1, h2, h3⟩]
        go_enter Try.func50, Try.ntmps50
        go_wp2_with fail
        go_ret
        exact ⟨rfl, by (with_reducible repeat (first | assumption | exact Below.refl _ _ | refine Below.setCell ?_ (by first | omega | (simp; done) | (simp; omega)) _ | refine Below.drew ?_ | refine bdrewN ?_ _ | refine Below.alloc ?_ (by first | omega | (simp; done) | (simp; omega)) _))⟩
      · have h : vldB ⟨r, g, b, a⟩ = false := by rw [← Bool.not_eq_true, vldB_iff]; simp only; omega
        rw [h]
        clear h
        go_enter Try.func50, Try.ntmps50
        go_wp2_with fail
        go_ret
        exact ⟨rfl, by (with_reducible repeat (first | assumption | exact Below.refl _ _ | refine Below.setCell ?_ (by first | omega | (simp; done) | (simp; omega)) _ | refine Below.drew ?_ | refine bdrewN ?_ _ | refine Below.alloc ?_ (by first | omega | (simp; done) | (simp; omega)) _))⟩
    · have h : vldB ⟨r, g, b, a⟩ = false := by rw [← Bool.not_eq_true, vldB_iff]; simp only; omega
      rw [h]
      clear h
      go_enter Try.func50, Try.ntmps50
      go_wp2_with fail
      go_ret
      exact ⟨rfl, by (with_reducible repeat (first | assumption | exact Below.refl _ _ | refine Below.setCell ?_ (by first | omega | (simp; done) | (simp; omega)) _ | refine Below.drew ?_ | refine bdrewN ?_ _ | refine Below.alloc ?_ (by first | omega | (simp; done) | (simp; omega)) _))⟩
  · have h : vldB ⟨r, g, b, a⟩ = false := by rw [← Bool.not_eq_true, vldB_iff]; simp only; omega
    rw [h]
    clear h
    go_enter Try.func50, Try.ntmps50
    go_wp2_with fail
    go_ret
    exact ⟨rfl, by (with_reducible repeat (first | assumption | exact Below.refl _ _ | refine Below.setCell ?_ (by first | omega | (simp; done) | (simp; omega)) _ | refine Below.drew ?_ | refine bdrewN ?_ _ | refine Below.alloc ?_ (by first | omega | (simp; done) | (simp; omega)) _))⟩
theorem bvalid1_any (r g b a : Int) (w : World) :
    Calls Try.prog 52 #[px r g b a] w fun e w' => e = .returned (.bool (!vldB ⟨r, g, b, a⟩)) ∧ Below w.heap.size w w' := by
  go_enter Try.func52, Try.ntmps52
  go_wp2_with (go_at_call 53; refine (pxvalid_any _ _ _ _ _).mono ?_; rintro e w1 ⟨rfl, hb_w1⟩; have hB : Below w.heap.size w w1 := bon (by (with_reducible repeat (first | assumption | exact Below.refl _ _ | refine Below.setCell ?_ (by first | omega | (simp; done) | (simp; omega)) _ | refine Below.drew ?_ | refine bdrewN ?_ _ | refine Below.alloc ?_ (by first | omega | (simp; done) | (simp; omega)) _))) (by simp) hb_w1; clear hb_w1)
  go_ret
  exact ⟨rfl, hB⟩
/-- The first pixel that is not valid. -/
def AnyIdx (w : World) (ps : List Px) (e : Ending) (w' : World) : Prop :=
  Below w.heap.size w w' ∧ ∃ i : Int, e = .returned (.int .i64 i) ∧ decide (0 ≤ i) = !ps.all vldB
theorem all_split {ps : List Px} {j : Nat} (h : j < ps.length) (hv : vldB ps[j] = false) : ps.all vldB = false := by
  rw [← Bool.not_eq_true, List.all_eq_true]
  intro k
  have := k _ (List.getElem_mem h)
  rw [hv] at this
  cases this
set_option maxHeartbeats 1000000 in
theorem sindex_any (A : Option Addr) (ps : List Px) (c : Nat) (w : World) (h : Rdp w A ps) (hl : ps.length ≤ 9223372036854775807) :
    Calls Try.prog 65 #[.slice A ps.length c, .func (Fn.func 52) #[] #[]] w (AnyIdx w ps) := by
  obtain ⟨n, hn⟩ : ∃ n, ps.length = n := ⟨_, rfl⟩
  rw [hn] at hl ⊢
  have HN := Lib.hid hn
  have H := Lib.hid h
  clear hn h
  go_enter Try.func65, Try.ntmps65
  go_wp2_with fail
  go_loopg [8] n (fun k s8 wr => ∃ j : Nat, k = n - j ∧ j ≤ n ∧ s8 = .int .i64 j ∧ Below w.heap.size w wr ∧ Aside (∀ q (h : q < ps.length), q < j → vldB ps[q] = true))
  case atStart => exact ⟨0, by omega, by omega, by first | rfl | simp, Below.refl _ _, fun q _ hq => by omega⟩
  case round =>
    obtain ⟨j, hk, hj, rfl, hB, HA⟩ := hrel
    by_cases hlt : j < n
    · obtain ⟨b, off, hA, hbl, c0, c1, c2, c3⟩ := H.out j (by rw [HN.out]; omega)
      replace c0 := (hB.cell (p := ⟨b, off + j * 4, none⟩) hbl).trans c0
      replace c1 := (hB.cell (p := ⟨b, off + j * 4 + 1, none⟩) hbl).trans c1
      replace c2 := (hB.cell (p := ⟨b, off + j * 4 + 2, none⟩) hbl).trans c2
      replace c3 := (hB.cell (p := ⟨b, off + j * 4 + 3, none⟩) hbl).trans c3
      obtain ⟨X, hX⟩ : ∃ X, ps[j]'(by rw [HN.out]; omega) = X := ⟨_, rfl⟩
      rw [hX] at c0 c1 c2 c3
      have HX := Lib.hid hX
      obtain ⟨xr, xg, xb, xa⟩ := X
      simp only at c0 c1 c2 c3
      have hC := fun W => bvalid1_any xr xg xb xa W
      subst hA
      clear hX
      cases hv : vldB ⟨xr, xg, xb, xa⟩ with
      | true =>
        rw [hv] at hC
        have HC := Lib.hid hC
        have HV := Lib.hid hv
        clear hC hv
        go_wp2_with (go_at_call 52; refine (HC.out _).mono ?_; rintro e w1 ⟨rfl, hb_w1⟩; have hB1 : Below w.heap.size w w1 := bon hB hB.size hb_w1; clear hb_w1)
        go_roundg (n - (j + 1))
        case measure => omega
        case rel =>
          refine ⟨j + 1, by omega, by omega, by first | rfl | simp, hB1, fun q hq hqj => ?_⟩
          by_cases hqe : q = j
          · subst hqe; rw [HX.out]; exact HV.out
          · exact HA.out q hq (by omega)
      | false =>
        rw [hv] at hC
        have HC := Lib.hid hC
        have HV := Lib.hid hv
        clear hC hv
        go_wp2_with (go_at_call 52; refine (HC.out _).mono ?_; rintro e w1 ⟨rfl, hb_w1⟩; have hB1 : Below w.heap.size w w1 := bon hB hB.size hb_w1; clear hb_w1)
        go_ret
        refine ⟨hB1, j, rfl, ?_⟩
        rw [all_split (j := j) (by rw [HN.out]; omega) (by rw [HX.out]; exact HV.out)]
        simp
    · obtain rfl : n = j := by omega
      go_wp2_with fail
      go_ret
      refine ⟨hB, -1, rfl, ?_⟩
      have : ps.all vldB = true := by
        rw [List.all_eq_true]
        intro x hx
        obtain ⟨q, hq, rfl⟩ := List.getElem_of_mem hx
        exact HA.out q hq (by rw [← HN.out]; exact hq)
      rw [this]
      rfl
theorem scontains_any (A : Option Addr) (ps : List Px) (c : Nat) (w : World) (h : Rdp w A ps) (hl : ps.length ≤ 9223372036854775807) :
    Calls Try.prog 51 #[.slice A ps.length c, .func (Fn.func 52) #[] #[]] w fun e w' => e = .returned (.bool (!ps.all vldB)) ∧ Below w.heap.size w w' := by
  have hC := sindex_any A ps c w h hl
  obtain ⟨n, hn⟩ : ∃ n, ps.length = n := ⟨_, rfl⟩
  rw [hn] at hC ⊢
  have HC := Lib.hid hC
  clear hC hn h
  go_enter Try.func51, Try.ntmps51
  go_wp2_with (go_at_call 65; refine HC.out.mono ?_; rintro e w1 ⟨hb1, i, rfl, hi⟩; have HI := Lib.hid hi; clear hi)
  go_ret
  exact ⟨by rw [← HI.out]; first | rfl | simp, hb1⟩
theorem bufB_small {w h : Int} {ps : List Px} (k : bufB w h ps = true) : (1 ≤ w ∧ w ≤ 256) ∧ (1 ≤ h ∧ h ≤ 256) ∧ (ps.length : Int) = w * h := by
  obtain ⟨h1, h2, h3, _⟩ := (bufB_iff w h ps).1 k
  exact ⟨h1, h2, h3⟩
theorem bufB_w {w : Int} (h : Int) (ps : List Px) (k : szB w = false) : bufB w h ps = false := by unfold bufB; rw [k]; rfl
theorem bufB_h {w h : Int} (ps : List Px) (k : szB w = true) (k2 : szB h = false) : bufB w h ps = false := by unfold bufB; rw [k, k2]; rfl
theorem bufB_n {w h : Int} {ps : List Px} (k : szB w = true) (k2 : szB h = true) (k3 : ¬ (ps.length : Int) = w * h) : bufB w h ps = false := by unfold bufB; rw [k, k2, decide_eq_false k3]; rfl
theorem bufB_all {w h : Int} {ps : List Px} (k : szB w = true) (k2 : szB h = true) (k3 : (ps.length : Int) = w * h) : bufB w h ps = ps.all vldB := by unfold bufB; rw [k, k2, decide_eq_true k3]; rfl
set_option maxHeartbeats 1000000 in
theorem bvalid_any (bw bh : Int) (A : Option Addr) (ps : List Px) (c : Nat) (w : World) (h : Rdp w A ps) (hl : ps.length ≤ 9223372036854775807) :
    Calls Try.prog 26 #[bufv bw bh (.slice A ps.length c)] w fun e w' => e = .returned (.bool (bufB bw bh ps)) ∧ Below w.heap.size w w' := by
  have hC := fun W (hb : Below w.heap.size w W) => scontains_any A ps c W (h.below hb) hl
  obtain ⟨n, hn⟩ : ∃ n, ps.length = n := ⟨_, rfl⟩
  rw [hn] at hl hC ⊢
  have HC := Lib.hid hC
  have HN := Lib.hid hn
  clear hC hn h
  have hs1 := fun W => bsize_any bw W
  have hs2 := fun W => bsize_any bh W
  cases k1 : szB bw with
  | false =>
    rw [bufB_w bh ps k1]
    rw [k1] at hs1
    have HS1 := Lib.hid hs1
    clear k1 hs1 hs2
    go_enter Try.func26, Try.ntmps26
    go_wp2_with (go_at_call 39; refine (HS1.out _).mono ?_; rintro e w' ⟨rfl, rfl⟩)
    go_ret
    exact ⟨rfl, by (with_reducible repeat (first | assumption | exact Below.refl _ _ | refine Below.setCell ?_ (by first | omega | (simp; done) | (simp; omega)) _ | refine Below.drew ?_ | refine bdrewN ?_ _ | refine Below.alloc ?_ (by first | omega | (simp; done) | (simp; omega)) _))⟩
  | true =>
    have hw := (szB_iff bw).1 k1
    cases k2 : szB bh with
    | false =>
      rw [bufB_h ps k1 k2]
      rw [k1] at hs1
      rw [k2] at hs2
      have HS1 := Lib.hid hs1
      have HS2 := Lib.hid hs2
      clear k1 k2 hs1 hs2
      go_enter Try.func26, Try.ntmps26
      go_wp2_with fail
      refine (HS1.out _).mono ?_; rintro e w' ⟨rfl, rfl⟩
      go_wp2_with fail
      refine (HS2.out _).mono ?_; rintro e w' ⟨rfl, rfl⟩
      go_wp2_with fail
      go_ret
      exact ⟨rfl, by (with_reducible repeat (first | assumption | exact Below.refl _ _ | refine Below.setCell ?_ (by first | omega | (simp; done) | (simp; omega)) _ | refine Below.drew ?_ | refine bdrewN ?_ _ | refine Below.alloc ?_ (by first | omega | (simp; done) | (simp; omega)) _))⟩
    | true =>
      have hh := (szB_iff bh).1 k2
      have hm := size_mul hw hh
      by_cases k3 : (n : Int) = bw * bh
      · have e3 := bufB_all (ps := ps) k1 k2 (by rw [HN.out]; exact k3)
        rw [e3]
        have hnb : ((n : Int) != bw * bh) = false := by simpa using k3
        rw [k1] at hs1
        rw [k2] at hs2
        have HS1 := Lib.hid hs1
        have HS2 := Lib.hid hs2
        clear k1 k2 k3 hs1 hs2 e3
        go_enter Try.func26, Try.ntmps26
        go_wp2_with fail
        refine (HS1.out _).mono ?_; rintro e w' ⟨rfl, rfl⟩
        go_wp2_with fail
        refine (HS2.out _).mono ?_; rintro e w' ⟨rfl, rfl⟩
        go_wp2_with fail
        refine (HC.out _ (by (with_reducible repeat (first | assumption | exact Below.refl _ _ | refine Below.setCell ?_ (by first | omega | (simp; done) | (simp; omega)) _ | refine Below.drew ?_ | refine bdrewN ?_ _ | refine Below.alloc ?_ (by first | omega | (simp; done) | (simp; omega)) _)))).mono ?_; rintro e w1 ⟨rfl, hb_w1⟩
        have hB1 : Below w.heap.size w w1 := bon (by (with_reducible repeat (first | assumption | exact Below.refl _ _ | refine Below.setCell ?_ (by first | omega | (simp; done) | (simp; omega)) _ | refine Below.drew ?_ | refine bdrewN ?_ _ | refine Below.alloc ?_ (by first | omega | (simp; done) | (simp; omega)) _))) (by simp) hb_w1
        clear hb_w1
        go_wp2_with fail
        go_ret
        exact ⟨by first | rfl | simp, hB1⟩
      · have e3 := bufB_n (ps := ps) k1 k2 (by rw [HN.out]; exact k3)
        rw [e3]
        have hnb : ((n : Int) != bw * bh) = true := by simpa using k3
        rw [k1] at hs1
        rw [k2] at hs2
        have HS1 := Lib.hid hs1
        have HS2 := Lib.hid hs2
        clear k1 k2 k3 hs1 hs2 e3
        go_enter Try.func26, Try.ntmps26
        go_wp2_with fail
        refine (HS1.out _).mono ?_; rintro e w' ⟨rfl, rfl⟩
        go_wp2_with fail
        refine (HS2.out _).mono ?_; rintro e w' ⟨rfl, rfl⟩
        go_wp2_with fail
        go_ret
        exact ⟨rfl, by (with_reducible repeat (first | assumption | exact Below.refl _ _ | refine Below.setCell ?_ (by first | omega | (simp; done) | (simp; omega)) _ | refine Below.drew ?_ | refine bdrewN ?_ _ | refine Below.alloc ?_ (by first | omega | (simp; done) | (simp; omega)) _))⟩
set_option maxHeartbeats 1000000 in
theorem vvalid_any (bw bh : Int) (A : Option Addr) (ps : List Px) (c : Nat) (w : World) (h : Rdp w A ps) (hl : ps.length ≤ 9223372036854775807) :
    Calls Try.prog 25 #[bufv bw bh (.slice A ps.length c)] w fun e w' => e = .returned (.bool (bufB bw bh ps)) ∧ Below w.heap.size w w' := by
  obtain ⟨n, hn⟩ : ∃ n, ps.length = n := ⟨_, rfl⟩
  rw [hn] at hl ⊢
  have H := Lib.hid h
  have HN := Lib.hid hn
  clear hn h
  have hs := fun W => vsize_any bw bh W
  cases k1 : (szB bw && szB bh) with
  | false =>
    have e1 : bufB bw bh ps = false := by unfold bufB; rw [k1]; rfl
    rw [e1]
    rw [k1] at hs
    have HS := Lib.hid hs
    clear k1 hs e1
    go_enter Try.func25, Try.ntmps25
    go_wp2_with (go_at_call 41; refine (HS.out _).mono ?_; rintro e w' ⟨rfl, rfl⟩)
    go_ret
    exact ⟨rfl, by (with_reducible repeat (first | assumption | exact Below.refl _ _ | refine Below.setCell ?_ (by first | omega | (simp; done) | (simp; omega)) _ | refine Below.drew ?_ | refine bdrewN ?_ _ | refine Below.alloc ?_ (by first | omega | (simp; done) | (simp; omega)) _))⟩
  | true =>
    obtain ⟨k1a, k1b⟩ := Bool.and_eq_true_iff.1 k1
    have hw := (szB_iff bw).1 k1a
    have hh := (szB_iff bh).1 k1b
    have hm := size_mul hw hh
    rw [k1] at hs
    have HS := Lib.hid hs
    clear k1 hs
    by_cases k3 : (n : Int) = bw * bh
    · have e3 := bufB_all (ps := ps) k1a k1b (by rw [HN.out]; exact k3)
      rw [e3]
      have hnb : ((n : Int) != bw * bh) = false := by simpa using k3
      have hl4 : n ≤ 65536 := by omega
      clear k1a k1b k3 e3
      go_enter Try.func25, Try.ntmps25
      go_wp2_with (go_at_call 41; refine (HS.out _).mono ?_; rintro e w' ⟨rfl, rfl⟩)
      have K0 : Blk (w.alloc (.cells #[.int .i64 bw, .int .i64 bh, .slice A n c] 27)) w.heap.size 27 #[.int .i64 bw, .int .i64 bh, .slice A n c] := Blk.new _ _ _
      have HB0 := Lib.hid (show Below w.heap.size w (w.alloc (.cells #[.int .i64 bw, .int .i64 bh, .slice A n c] 27)) from (Below.refl _ _).alloc (Nat.le_refl _) _)
      have HK0 := Lib.hid K0
      clear K0
      generalize (w.alloc (.cells #[.int .i64 bw, .int .i64 bh, .slice A n c] 27)) = w0 at *
      go_loopg [3] n (fun k s3 wr => ∃ j : Nat, k = n - j ∧ j ≤ n ∧ s3 = .int .i64 j ∧ Below w0.heap.size w0 wr ∧ Aside (∀ q (h : q < ps.length), q < j → vldB ps[q] = true))
      case atStart => exact ⟨0, by omega, by omega, by first | rfl | simp, Below.refl _ _, fun q _ hq => by omega⟩
      case round =>
        obtain ⟨j, hk, hj, rfl, hB0, HA⟩ := hrel
        have hB : Below w.heap.size w wr := bon HB0.out HB0.out.size hB0
        obtain ⟨⟨d0, _⟩, ⟨d1, _⟩, d2, _⟩ := (Blk.below hB0 HK0.out).c3
        by_cases hlt : j < n
        · obtain ⟨b, off, hA, hbl, c0, c1, c2, c3⟩ := H.out j (by rw [HN.out]; omega)
          replace c0 := (hB.cell (p := ⟨b, off + j * 4, none⟩) hbl).trans c0
          replace c1 := (hB.cell (p := ⟨b, off + j * 4 + 1, none⟩) hbl).trans c1
          replace c2 := (hB.cell (p := ⟨b, off + j * 4 + 2, none⟩) hbl).trans c2
          replace c3 := (hB.cell (p := ⟨b, off + j * 4 + 3, none⟩) hbl).trans c3
          obtain ⟨X, hX⟩ : ∃ X, ps[j]'(by rw [HN.out]; omega) = X := ⟨_, rfl⟩
          rw [hX] at c0 c1 c2 c3
          have HX := Lib.hid hX
          obtain ⟨xr, xg, xb, xa⟩ := X
          simp only at c0 c1 c2 c3
          have hC := fun W => r8valid_any xr xg xb xa W
          subst hA
          clear hX
          cases hv : vldB ⟨xr, xg, xb, xa⟩ with
          | true =>
            rw [hv] at hC
            have HC := Lib.hid hC
            have HV := Lib.hid hv
            clear hC hv
            go_wp2_with (go_at_call 50; refine (HC.out _).mono ?_; rintro e w1 ⟨rfl, hb_w1⟩; have hB1 : Below w0.heap.size w0 w1 := bon hB0 hB0.size hb_w1; clear hb_w1)
            go_roundg (n - (j + 1))
            case measure => omega
            case rel =>
              refine ⟨j + 1, by omega, by omega, by first | rfl | simp, hB1, fun q hq hqj => ?_⟩
              by_cases hqe : q = j
              · subst hqe; rw [HX.out]; exact HV.out
              · exact HA.out q hq (by omega)
          | false =>
            rw [hv] at hC
            have HC := Lib.hid hC
            have HV := Lib.hid hv
            clear hC hv
            go_wp2_with (go_at_call 50; refine (HC.out _).mono ?_; rintro e w1 ⟨rfl, hb_w1⟩; have hB1 : Below w.heap.size w w1 := bon hB hB.size hb_w1; clear hb_w1)
            go_ret
            refine ⟨?_, hB1⟩
            rw [all_split (j := j) (by rw [HN.out]; omega) (by rw [HX.out]; exact HV.out)]
            rfl
        · obtain rfl : n = j := by omega
          go_wp2_with fail
          go_ret
          have : ps.all vldB = true := by
            rw [List.all_eq_true]
            intro x hx
            obtain ⟨q, hq, rfl⟩ := List.getElem_of_mem hx
            exact HA.out q hq (by rw [← HN.out]; exact hq)
          rw [this]
          exact ⟨rfl, hB⟩
    · have e3 := bufB_n (ps := ps) k1a k1b (by rw [HN.out]; exact k3)
      rw [e3]
      have hnb : ((n : Int) != bw * bh) = true := by simpa using k3
      clear k1a k1b k3 e3
      go_enter Try.func25, Try.ntmps25
      go_wp2_with (go_at_call 41; refine (HS.out _).mono ?_; rintro e w' ⟨rfl, rfl⟩)
      go_ret
      exact ⟨rfl, by (with_reducible repeat (first | assumption | exact Below.refl _ _ | refine Below.setCell ?_ (by first | omega | (simp; done) | (simp; omega)) _ | refine Below.drew ?_ | refine bdrewN ?_ _ | refine Below.alloc ?_ (by first | omega | (simp; done) | (simp; omega)) _))⟩
end Go.Proofs.Ytgikmcgoaihggaa
