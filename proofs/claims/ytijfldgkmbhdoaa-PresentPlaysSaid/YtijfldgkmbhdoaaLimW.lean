/- PresentLimits: the walk. -/
import Derived.Test.YtijfldgkmbhdoaaEx30
set_option linter.unusedVariables false
set_option linter.unusedSimpArgs false
namespace Go.Proofs.Ytijfldgkmbhdoaa
open Go.RowKit
attribute [local go_sem ↓] Go.wp_at_zero Go.wp_at_succ

theorem itemOut_length (iv bl : Int) (its : List Itm) (i : Nat) : (itemOut iv bl its i).length = (its.getD i ⟨0, undef, []⟩).cbs.length + 1 := by
  unfold itemOut
  rw [List.length_append, List.length_map]
  rfl
theorem tickUpto_bare (iv bl : Int) (its : List Itm) (h : ∀ x ∈ its, x.cbs = []) : ∀ n, n ≤ its.length → (tickUpto iv bl its n).length = n
  | 0, _ => by simp [tickUpto]
  | n + 1, hn => by
    rw [tickUpto_succ, List.length_append, tickUpto_bare iv bl its h n (by omega), itemOut_length]
    have : (its.getD n ⟨0, undef, []⟩).cbs = [] := h _ (by rw [List.getD_eq_getElem?_getD, List.getElem?_eq_getElem (by omega), Option.getD_some]; exact List.getElem_mem _)
    rw [this]
    rfl
theorem made_src {w : World} {base n : Nat} {v : Value} (h : w.ownsRow base 42 1 v n (madeCells (Value.int .u32 0).cells (n * 1)).toList) : Src w 1 v n ((List.replicate n (0 : Int)).map (Value.int .u32)) := by
  have e : (madeCells (Value.int .u32 0).cells (n * 1)).toList = (List.replicate n (0 : Int)).map (Value.int .u32) := by
    rw [Nat.mul_one, List.map_replicate]
    exact toList_madeCells_one _ _
  rw [e] at h
  exact Src.row h (by simp [Value.oneCell'])
theorem Src.len {w : World} {size m : Nat} {v : Value} {news : List Value} (h : Src w size v m news) : ∃ ad c, v = .slice ad m c := by
  rcases h.2.2 with ⟨rfl, h0⟩ | ⟨ad, c, rfl, _⟩
  · exact ⟨_, _, by rw [h0]⟩
  · exact ⟨_, _, rfl⟩

set_option maxRecDepth 100000 in
set_option maxHeartbeats 4000000 in
theorem presentlimits_any (ex : Int) (w : World) (he : 0 ≤ ex ∧ ex ≤ 255) :
    Calls Try.prog 7 #[.int .u8 ex] w fun e w' => e = .returned (.bool true) ∧ Below w.heap.size w w' := by
  obtain ⟨iu, hi1, hi2, hi3, hi4⟩ := info_parts (P := Try.prog) (e := 42) (z := .int .u32 0) (size := 1) (bytes := 4) (by kernel_rfl)
  obtain ⟨N, hN⟩ : ∃ N : Nat, 257 + ex = (N : Int) := ⟨(257 + ex).toNat, by omega⟩
  have hN1 : 257 ≤ N ∧ N ≤ 600 := by omega
  have HN := Lib.hid hN
  clear hN
  go_enter Try.func7, Try.ntmps7
  go_wp2_with fail
  refine (lslow_ok _).mono ?_; rintro e w1 ⟨rfl, hb1⟩
  go_wp2_with fail
  refine (pnew_ok _ _ _ _ _ _ _ _ _ (by decide) chk_slow).mono ?_; rintro e w2 ⟨p, rfl, hb2, k2⟩
  rw [ivl_slow] at k2
  have hBw := hb1.size
  have F2 : FrT w.heap.size [78, 84] w w2 := FrT.ofBelow (bthen hb1 hb2) _ _
  have K2 := Lib.hid k2
  clear k2 hb1 hb2
  go_wp2_with fail
  go_loopg [5] 256 (fun k s5 wr => ∃ (j : Nat) (qv : Value) (its : List Itm), k = 256 - j ∧ j ≤ 256 ∧ s5 = .int .i64 j ∧ FrT w.heap.size [78, 84] w wr ∧ Clk wr w1.heap.size p 1000000000 0 qv its ∧ Aside (its.length = j ∧ ∀ x ∈ its, x.cbs = []))
  case atStart => exact ⟨0, _, [], by omega, by omega, by first | rfl | simp, F2, K2.out, ⟨rfl, by simp⟩⟩
  case round =>
    obtain ⟨j, qv, its, hk, hj, rfl, F, k, HA⟩ := hrel
    have K := Lib.hid k
    clear k
    by_cases hlt : j < 256
    · go_wp2_with fail
      refine (pcommit_ok w1.heap.size p 1000000000 0 _ _ _ _ [] _ K.out (by omega) (by rw [HA.out.1]; omega) (Src.nil _ _) (by decide) (by decide)).mono ?_; rintro e w6 ⟨rfl, f6, qv6, cv6, k6⟩
      have F6 := F.trans (f6.mono hBw (fun _ h => h))
      have K6 := Lib.hid k6
      clear f6 k6
      go_wp2_with fail
      go_roundg (256 - (j + 1))
      case measure => omega
      case rel =>
        refine ⟨j + 1, qv6, _, by omega, by omega, by first | rfl | simp, F6, K6.out, ⟨by rw [List.length_append, HA.out.1]; rfl, fun x hx => ?_⟩⟩
        rcases List.mem_append.1 hx with hx | hx
        · exact HA.out.2 x hx
        · simp only [List.mem_singleton] at hx
          subst hx
          rfl
    · obtain rfl : 256 = j := by omega
      go_wp2_with fail
      refine (pcommit_limit w1.heap.size p 1000000000 0 _ _ _ _ _ _ _ K.out (by omega) (.inl (by rw [HA.out.1]; omega)) (by decide)).mono ?_; rintro e w6 ⟨rfl, rfl⟩
      go_wp2_with fail
      refine (ppending_ok _ _ _ _ _ _ _ K.out).mono ?_; rintro e w6 ⟨rfl, rfl⟩
      rw [HA.out.1]
      go_wp2_with fail
      refine (ptick_go w1.heap.size p 1000000000 0 1000000000 _ _ _ K.out (by omega) (by decide)).mono ?_; rintro e w8 ⟨v8, rfl, f8, k8, r8⟩
      have F8 := F.trans (f8.mono hBw (fun _ h => h))
      have e8 : (tickOut 1000000000 (nxt 1000000000 0) its).length = 256 := by unfold tickOut; rw [tickUpto_bare _ _ _ HA.out.2 _ (Nat.le_refl _), HA.out.1]
      rw [e8] at r8
      obtain ⟨a8, c8, hv8, _, _⟩ := slice_len r8
      subst hv8
      rw [show tickT 0 1000000000 = 1000000000 by decide] at k8
      have K8 := Lib.hid k8
      clear k8 r8 f8 e8
      go_wp2_with (at_make; refine wpList_make_full _ rfl _ _ 43 rfl w8.heap.size 42 iu (.int .u32 0) 1 Try.underlying43 hi1 hi2 hi3 _ _ _ _ 256 rfl rfl (by omega) (by omega) (by rw [hi4]; omega) (by decide) (by simp) ?_; intro w9 hr9 hg9; have S9 := Lib.hid (made_src hr9); have F9 := F8.trans (((FrT.refl w.heap.size [78, 84] w8).grown (World.ownsRow_nil w8 w8.heap.size 42 1) hg9 (.inr (Nat.le_refl _)))); have K9 := Lib.hid (K8.out.carry ((FrT.refl 0 [] w8).grown (World.ownsRow_nil w8 w8.heap.size 42 1) hg9 (.inr (Nat.le_refl _))) ⟨rfl, rfl, rfl⟩); clear hr9 hg9)
      refine (pcommit_ok w1.heap.size p 1000000000 1000000000 1 _ [] _ (List.replicate 256 0) _ K9.out (by omega) (by decide) (by rw [List.length_replicate]; exact S9.out) (by decide) (by simp)).mono ?_; rintro e w10 ⟨rfl, f10, qv10, cv10, k10⟩
      have F10 := F9.trans (f10.mono hBw (fun _ h => h))
      have K10 := Lib.hid k10
      clear f10 k10
      go_wp2_with (at_make; go_loud (refine wpList_make_g _ (by rfl) _ _ 43 rfl w10.heap.size 42 iu (.int .u32 0) 1 Try.underlying43 hi1 hi2 hi3 _ _ _ _ N rfl rfl HN.out HN.out (by rw [hi4]; omega) (by simp only [maxLen]; omega) (by simp) ?_); intro w11 hr11 hg11; have F11 := F10.trans (((FrT.refl w.heap.size [78, 84] w10).grown (World.ownsRow_nil w10 w10.heap.size 42 1) hg11 (.inr (Nat.le_refl _)))); have K11 := Lib.hid (K10.out.carry ((FrT.refl 0 [] w10).grown (World.ownsRow_nil w10 w10.heap.size 42 1) hg11 (.inr (Nat.le_refl _))) ⟨rfl, rfl, rfl⟩); clear hr11 hg11)
      refine (pcommit_limit w1.heap.size p 1000000000 1000000000 1 _ _ _ _ _ _ K11.out (by omega) (.inr (by omega)) (by omega)).mono ?_; rintro e w12 ⟨rfl, rfl⟩
      go_wp2_with fail
      refine (pcommit_range p 1000000000 0 _ _ (clk_facts K11.out).1 (by omega) (by omega)).mono ?_; rintro e w12 ⟨rfl, rfl⟩
      go_wp2_with fail
      refine (ex30_true _).mono ?_; rintro e w12 ⟨rfl, hb12⟩
      have F12 := F11.trans (FrT.ofBelow hb12 _ _)
      clear hb12
      go_wp2_with fail
      go_ret
      exact ⟨rfl, F12.toBelow (Nat.le_refl _)⟩
end Go.Proofs.Ytijfldgkmbhdoaa
