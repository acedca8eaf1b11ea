/- heavy answers something, and leaves the world. -/
import Derived.Test.YtijfldgkmbhdoaaNum
import Derived.Test.YtijfldgkmbhdoaaOpsO
set_option linter.unusedVariables false
set_option linter.unusedSimpArgs false
namespace Go.Proofs.Ytijfldgkmbhdoaa
open Go.RowKit
attribute [local go_sem ↓] Go.wp_at_zero Go.wp_at_succ

def AnyB (w : World) (e : Ending) (w' : World) : Prop := ∃ b : Bool, e = .returned (.bool b) ∧ w = w'
set_option maxRecDepth 100000 in
set_option maxHeartbeats 4000000 in
theorem lheavy_any (A : Option Addr) (l : List OpC) (c : Nat) (w : World) (h : Ops w A l) (hl : l.length ≤ 9223372036854775807) : Calls Try.prog 25 #[.slice A l.length c] w (AnyB w) := by
  obtain ⟨n, hn⟩ : ∃ n, l.length = n := ⟨_, rfl⟩
  rw [hn] at hl ⊢
  have HN := Lib.hid hn
  have H := Lib.hid h
  clear hn h
  by_cases h4 : 400 < n
  · go_enter Try.func25, Try.ntmps25
    go_wp2_with fail
    go_ret
    exact ⟨_, rfl, rfl⟩
  · go_enter Try.func25, Try.ntmps25
    go_wp2_with fail
    go_loopg [3] n (fun k s3 wr => ∃ j : Nat, k = n - j ∧ j ≤ n ∧ s3 = .int .i64 j ∧ w = wr)
    case atStart => exact ⟨0, by omega, by omega, by first | rfl | simp, rfl⟩
    case round =>
      obtain ⟨j, hk, hj, rfl, rfl⟩ := hrel
      by_cases hlt : j < n
      · obtain ⟨b, off, hA, hbl, c0, c1, c2, ho⟩ := H.out j (by rw [HN.out]; omega)
        obtain ⟨X, hX⟩ : ∃ X, l[j]'(by rw [HN.out]; omega) = X := ⟨_, rfl⟩
        rw [hX] at c0 c1 c2 ho
        have hcap := ho.cap
        obtain ⟨xk, xn, xA, xc, xz⟩ := X
        simp only at c0 c1 c2 hcap
        generalize xz.length = m at *
        clear ho hX
        subst hA
        by_cases h1 : 300 < m
        · go_wp2_with fail
          go_ret
          exact ⟨_, rfl, rfl⟩
        · by_cases h2 : 60 < j
          · by_cases h3 : 2 < m
            · go_wp2_with fail
              go_ret
              exact ⟨_, rfl, rfl⟩
            · go_wp2_with fail
              go_roundg (n - (j + 1))
              case measure => omega
              case rel => exact ⟨j + 1, by omega, by omega, by first | rfl | simp, rfl⟩
          · go_wp2_with fail
            go_roundg (n - (j + 1))
            case measure => omega
            case rel => exact ⟨j + 1, by omega, by omega, by first | rfl | simp, rfl⟩
      · obtain rfl : n = j := by omega
        go_wp2_with fail
        go_ret
        exact ⟨_, rfl, rfl⟩
end Go.Proofs.Ytijfldgkmbhdoaa
