/- Decode's errors, and Decode of both in one contract. -/
import Derived.Test.YtgikmcgoaihggaaBDec
import Derived.Test.YtgikmcgoaihggaaVDec
set_option linter.unusedVariables false
set_option linter.unusedSimpArgs false
namespace Go.Proofs.Ytgikmcgoaihggaa
open Go.RowKit Go.Sort
attribute [local go_sem ↓] Go.wp_at_zero Go.wp_at_succ

set_option maxHeartbeats 4000000 in
theorem bdecode_bad (f bw bh st : Int) (A : Option Addr) (n c : Nat) (w : World) (hst : st < 9223372036854775808) (hn : n ≤ 9223372036854775807) (he : decE f bw bh st n ≠ 0) :
    Calls Try.prog 14 #[.int .i64 f, .int .i64 bw, .int .i64 bh, .int .i64 st, .slice A n c] w fun e w' => e = .returned (.tuple #[bufv 0 0 (.slice none 0 0), .int .i64 (decE f bw bh st n)]) ∧ Below w.heap.size w w' := by
  unfold decE at he ⊢
  have hs1 := fun W => bsize_any bw W
  have hs2 := fun W => bsize_any bh W
  by_cases h1 : f ≠ 1 ∧ f ≠ 2
  · rw [if_pos h1]
    have g1 : (f != 1) = true := by simpa using h1.1
    have g2 : (f != 2) = true := by simpa using h1.2
    clear h1 he
    go_enter Try.func14, Try.ntmps14
    go_wp2_with fail
    (refine bodyPost_ret (v := .tuple #[bufv 0 0 (.slice none 0 0), .int .i64 2]) (by simp [results, Try.results15, go_sem]) rfl ⟨rfl, by (with_reducible repeat (first | assumption | exact Below.refl _ _ | refine Below.setCell ?_ (by first | omega | (simp; done) | (simp; omega)) _ | refine Below.drew ?_ | refine bdrewN ?_ _ | refine Below.alloc ?_ (by first | omega | (simp; done) | (simp; omega)) _))⟩)
  · rw [if_neg h1] at he ⊢
    have h1' : f = 1 ∨ f = 2 := by omega
    clear h1
    by_cases h2 : (1 ≤ bw ∧ bw ≤ 256) ∧ (1 ≤ bh ∧ bh ≤ 256)
    · have h2' : ¬ ¬ ((1 ≤ bw ∧ bw ≤ 256) ∧ (1 ≤ bh ∧ bh ≤ 256)) := fun k => k h2
      rw [if_neg h2'] at he ⊢
      clear h2'
      obtain ⟨hw, hh⟩ := h2
      rw [(szB_iff bw).2 hw] at hs1
      rw [(szB_iff bh).2 hh] at hs2
      have HS1 := Lib.hid hs1
      have HS2 := Lib.hid hs2
      by_cases h3 : st < 4 * bw
      · rw [if_pos (.inl h3)]
        clear he hs1 hs2
        rcases h1' with rfl | rfl
        all_goals
          go_enter Try.func14, Try.ntmps14
          go_wp2_with fail
          refine (HS1.out _).mono ?_; rintro e w' ⟨rfl, rfl⟩
          go_wp2_with fail
          refine (HS2.out _).mono ?_; rintro e w' ⟨rfl, rfl⟩
          go_wp2_with fail
          (refine bodyPost_ret (v := .tuple #[bufv 0 0 (.slice none 0 0), .int .i64 15]) (by simp [results, Try.results15, go_sem]) rfl ⟨rfl, by (with_reducible repeat (first | assumption | exact Below.refl _ _ | refine Below.setCell ?_ (by first | omega | (simp; done) | (simp; omega)) _ | refine Below.drew ?_ | refine bdrewN ?_ _ | refine Below.alloc ?_ (by first | omega | (simp; done) | (simp; omega)) _))⟩)
      · have hr : 0 ≤ st % 4 ∧ st % 4 < 4 := ⟨Int.emod_nonneg _ (by omega), Int.emod_lt_of_pos _ (by omega)⟩
        by_cases h4 : st % 4 ≠ 0
        · rw [if_pos (.inr h4)]
          have g4 : (st % 4 != 0) = true := by simpa using h4
          clear he hs1 hs2 h4
          rcases h1' with rfl | rfl
          all_goals
            go_enter Try.func14, Try.ntmps14
            go_wp2_with fail
            refine (HS1.out _).mono ?_; rintro e w' ⟨rfl, rfl⟩
            go_wp2_with fail
            refine (HS2.out _).mono ?_; rintro e w' ⟨rfl, rfl⟩
            go_wp2_with fail
            (refine bodyPost_ret (v := .tuple #[bufv 0 0 (.slice none 0 0), .int .i64 15]) (by simp [results, Try.results15, go_sem]) rfl ⟨rfl, by (with_reducible repeat (first | assumption | exact Below.refl _ _ | refine Below.setCell ?_ (by first | omega | (simp; done) | (simp; omega)) _ | refine Below.drew ?_ | refine bdrewN ?_ _ | refine Below.alloc ?_ (by first | omega | (simp; done) | (simp; omega)) _))⟩)
        · have h34 : ¬ (st < 4 * bw ∨ st % 4 ≠ 0) := fun k => k.elim h3 h4
          rw [if_neg h34] at he ⊢
          have g4 : (st % 4 != 0) = false := by simpa using h4
          by_cases h5 : (n : Int) / bh < st
          · rw [if_pos h5]
            have hq0 : 0 ≤ (n : Int) / bh := Int.ediv_nonneg (by omega) (by omega)
            have hq1 : (n : Int) / bh ≤ 9223372036854775807 := Int.le_trans (Int.ediv_le_self _ (by omega)) (by omega)
            have hb0 : ¬ bh = 0 := by omega
            clear he hs1 hs2 h4 h34 hr
            rcases h1' with rfl | rfl
            all_goals
              go_enter Try.func14, Try.ntmps14
              go_wp2_with fail
              refine (HS1.out _).mono ?_; rintro e w' ⟨rfl, rfl⟩
              go_wp2_with fail
              refine (HS2.out _).mono ?_; rintro e w' ⟨rfl, rfl⟩
              go_wp2_with fail
              (refine bodyPost_ret (v := .tuple #[bufv 0 0 (.slice none 0 0), .int .i64 4]) (by simp [results, Try.results15, go_sem]) rfl ⟨rfl, by (with_reducible repeat (first | assumption | exact Below.refl _ _ | refine Below.setCell ?_ (by first | omega | (simp; done) | (simp; omega)) _ | refine Below.drew ?_ | refine bdrewN ?_ _ | refine Below.alloc ?_ (by first | omega | (simp; done) | (simp; omega)) _))⟩)
          · rw [if_neg h5] at he
            exact absurd rfl he
    · rw [if_pos h2]
      clear he
      cases k1 : szB bw with
      | false =>
        rw [k1] at hs1
        have HS1 := Lib.hid hs1
        clear hs1 hs2 k1 h2
        rcases h1' with rfl | rfl
        all_goals
          go_enter Try.func14, Try.ntmps14
          go_wp2_with fail
          refine (HS1.out _).mono ?_; rintro e w' ⟨rfl, rfl⟩
          go_wp2_with fail
          (refine bodyPost_ret (v := .tuple #[bufv 0 0 (.slice none 0 0), .int .i64 6]) (by simp [results, Try.results15, go_sem]) rfl ⟨rfl, by (with_reducible repeat (first | assumption | exact Below.refl _ _ | refine Below.setCell ?_ (by first | omega | (simp; done) | (simp; omega)) _ | refine Below.drew ?_ | refine bdrewN ?_ _ | refine Below.alloc ?_ (by first | omega | (simp; done) | (simp; omega)) _))⟩)
      | true =>
        have k2 : szB bh = false := by rw [← Bool.not_eq_true, szB_iff]; exact fun k => h2 ⟨(szB_iff bw).1 k1, k⟩
        rw [k1] at hs1
        rw [k2] at hs2
        have HS1 := Lib.hid hs1
        have HS2 := Lib.hid hs2
        clear hs1 hs2 k1 k2 h2
        rcases h1' with rfl | rfl
        all_goals
          go_enter Try.func14, Try.ntmps14
          go_wp2_with fail
          refine (HS1.out _).mono ?_; rintro e w' ⟨rfl, rfl⟩
          go_wp2_with fail
          refine (HS2.out _).mono ?_; rintro e w' ⟨rfl, rfl⟩
          go_wp2_with fail
          (refine bodyPost_ret (v := .tuple #[bufv 0 0 (.slice none 0 0), .int .i64 6]) (by simp [results, Try.results15, go_sem]) rfl ⟨rfl, by (with_reducible repeat (first | assumption | exact Below.refl _ _ | refine Below.setCell ?_ (by first | omega | (simp; done) | (simp; omega)) _ | refine Below.drew ?_ | refine bdrewN ?_ _ | refine Below.alloc ?_ (by first | omega | (simp; done) | (simp; omega)) _))⟩)
set_option maxHeartbeats 4000000 in
theorem vdecode_bad (f bw bh st : Int) (A : Option Addr) (n c : Nat) (w : World) (hst : st < 9223372036854775808) (hn : n ≤ 9223372036854775807) (he : decE f bw bh st n ≠ 0) :
    Calls Try.prog 15 #[.int .i64 f, .int .i64 bw, .int .i64 bh, .int .i64 st, .slice A n c] w fun e w' => e = .returned (.tuple #[bufv 0 0 (.slice none 0 0), .int .i64 (decE f bw bh st n)]) ∧ Below w.heap.size w w' := by
  unfold decE at he ⊢
  have hs1 := fun W => vsize_any bw bh W
  by_cases h1 : f ≠ 1 ∧ f ≠ 2
  · rw [if_pos h1]
    have g1 : (f != 1) = true := by simpa using h1.1
    have g2 : (f != 2) = true := by simpa using h1.2
    clear h1 he
    go_enter Try.func15, Try.ntmps15
    go_wp2_with fail
    (refine bodyPost_ret (v := .tuple #[bufv 0 0 (.slice none 0 0), .int .i64 2]) (by simp [results, Try.results15, go_sem]) rfl ⟨rfl, by (with_reducible repeat (first | assumption | exact Below.refl _ _ | refine Below.setCell ?_ (by first | omega | (simp; done) | (simp; omega)) _ | refine Below.drew ?_ | refine bdrewN ?_ _ | refine Below.alloc ?_ (by first | omega | (simp; done) | (simp; omega)) _))⟩)
  · rw [if_neg h1] at he ⊢
    have h1' : f = 1 ∨ f = 2 := by omega
    clear h1
    by_cases h2 : (1 ≤ bw ∧ bw ≤ 256) ∧ (1 ≤ bh ∧ bh ≤ 256)
    · have h2' : ¬ ¬ ((1 ≤ bw ∧ bw ≤ 256) ∧ (1 ≤ bh ∧ bh ≤ 256)) := fun k => k h2
      rw [if_neg h2'] at he ⊢
      clear h2'
      obtain ⟨hw, hh⟩ := h2
      rw [(szB_iff bw).2 hw] at hs1
      rw [(szB_iff bh).2 hh] at hs1
      have HS1 := Lib.hid hs1
      skip
      by_cases h3 : st < 4 * bw
      · rw [if_pos (.inl h3)]
        clear he hs1 
        rcases h1' with rfl | rfl
        all_goals
          go_enter Try.func15, Try.ntmps15
          go_wp2_with fail
          refine (HS1.out _).mono ?_; rintro e w' ⟨rfl, rfl⟩
          go_wp2_with fail
          (refine bodyPost_ret (v := .tuple #[bufv 0 0 (.slice none 0 0), .int .i64 15]) (by simp [results, Try.results15, go_sem]) rfl ⟨rfl, by (with_reducible repeat (first | assumption | exact Below.refl _ _ | refine Below.setCell ?_ (by first | omega | (simp; done) | (simp; omega)) _ | refine Below.drew ?_ | refine bdrewN ?_ _ | refine Below.alloc ?_ (by first | omega | (simp; done) | (simp; omega)) _))⟩)
      · have hr : 0 ≤ st % 4 ∧ st % 4 < 4 := ⟨Int.emod_nonneg _ (by omega), Int.emod_lt_of_pos _ (by omega)⟩
        by_cases h4 : st % 4 ≠ 0
        · rw [if_pos (.inr h4)]
          have g4 : (st % 4 != 0) = true := by simpa using h4
          clear he hs1  h4
          rcases h1' with rfl | rfl
          all_goals
            go_enter Try.func15, Try.ntmps15
            go_wp2_with fail
            refine (HS1.out _).mono ?_; rintro e w' ⟨rfl, rfl⟩
            go_wp2_with fail
            (refine bodyPost_ret (v := .tuple #[bufv 0 0 (.slice none 0 0), .int .i64 15]) (by simp [results, Try.results15, go_sem]) rfl ⟨rfl, by (with_reducible repeat (first | assumption | exact Below.refl _ _ | refine Below.setCell ?_ (by first | omega | (simp; done) | (simp; omega)) _ | refine Below.drew ?_ | refine bdrewN ?_ _ | refine Below.alloc ?_ (by first | omega | (simp; done) | (simp; omega)) _))⟩)
        · have h34 : ¬ (st < 4 * bw ∨ st % 4 ≠ 0) := fun k => k.elim h3 h4
          rw [if_neg h34] at he ⊢
          have g4 : (st % 4 != 0) = false := by simpa using h4
          by_cases h5 : (n : Int) / bh < st
          · rw [if_pos h5]
            have hq0 : 0 ≤ (n : Int) / bh := Int.ediv_nonneg (by omega) (by omega)
            have hq1 : (n : Int) / bh ≤ 9223372036854775807 := Int.le_trans (Int.ediv_le_self _ (by omega)) (by omega)
            have hb0 : ¬ bh = 0 := by omega
            clear he hs1  h4 h34 hr
            rcases h1' with rfl | rfl
            all_goals
              go_enter Try.func15, Try.ntmps15
              go_wp2_with fail
              refine (HS1.out _).mono ?_; rintro e w' ⟨rfl, rfl⟩
              go_wp2_with fail
              (refine bodyPost_ret (v := .tuple #[bufv 0 0 (.slice none 0 0), .int .i64 4]) (by simp [results, Try.results15, go_sem]) rfl ⟨rfl, by (with_reducible repeat (first | assumption | exact Below.refl _ _ | refine Below.setCell ?_ (by first | omega | (simp; done) | (simp; omega)) _ | refine Below.drew ?_ | refine bdrewN ?_ _ | refine Below.alloc ?_ (by first | omega | (simp; done) | (simp; omega)) _))⟩)
          · rw [if_neg h5] at he
            exact absurd rfl he
    · rw [if_pos h2]
      clear he
      have k1 : (szB bw && szB bh) = false := by rw [← Bool.not_eq_true, Bool.and_eq_true, szB_iff, szB_iff]; exact h2
      rw [k1] at hs1
      have HS1 := Lib.hid hs1
      clear hs1 k1 h2
      rcases h1' with rfl | rfl
      all_goals
        go_enter Try.func15, Try.ntmps15
        go_wp2_with fail
        refine (HS1.out _).mono ?_; rintro e w' ⟨rfl, rfl⟩
        go_wp2_with fail
        (refine bodyPost_ret (v := .tuple #[bufv 0 0 (.slice none 0 0), .int .i64 6]) (by simp [results, Try.results15, go_sem]) rfl ⟨rfl, by (with_reducible repeat (first | assumption | exact Below.refl _ _ | refine Below.setCell ?_ (by first | omega | (simp; done) | (simp; omega)) _ | refine Below.drew ?_ | refine bdrewN ?_ _ | refine Below.alloc ?_ (by first | omega | (simp; done) | (simp; omega)) _))⟩)
end Go.Proofs.Ytgikmcgoaihggaa
