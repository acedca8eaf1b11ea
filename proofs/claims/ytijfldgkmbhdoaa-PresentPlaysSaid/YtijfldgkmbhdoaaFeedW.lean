/- PresentFeedback: the walk. -/
import Derived.Test.YtijfldgkmbhdoaaBackW
import Derived.Test.YtijfldgkmbhdoaaFeedPure
set_option linter.unusedVariables false
set_option linter.unusedSimpArgs false
namespace Go.Proofs.Ytijfldgkmbhdoaa
open Go.RowKit
attribute [local go_sem ↓] Go.wp_at_zero Go.wp_at_succ

theorem u32_one {w : World} {z : Int} {n : Nat} (h : w.heap.size = n) : Src (w.alloc (.cells #[.int .u32 z] 42)) 1 (.slice (some ⟨n, 0, none⟩) 1 1) [z].length ([z].map (Value.int .u32)) :=
  Src.blk (cs := #[.int .u32 z]) (Blk.newAt h) rfl (by simp [Value.oneCell']) 1
theorem dl_at {w : World} {B n c : Nat} {a : Option Addr} {l : List Dl} (r : w.ownsRow B 48 9 (.slice a n c) l.length (dlCells l)) (h : 0 < l.length) :
    ∃ g, a = some ⟨g, 0, none⟩ ∧ ∀ e d k u, l[e]? = some d → k < 9 → (dlCell d)[k]? = some u → w.cell? ⟨g, e * 9 + k, none⟩ = some u := by
  obtain ⟨g, cap, hv, _, _, hc⟩ := dl_cells r h
  simp only [Value.slice.injEq] at hv
  exact ⟨g, hv.1, fun e d k u he hk hu => hc _ _ (by rw [dlCells_get he k hk, hu])⟩
set_option maxRecDepth 100000 in
set_option maxHeartbeats 4000000 in
theorem presentfeedback_long (A : Option Addr) (n c : Nat) (ah : Int) (w : World) (hn : 60 < n ∧ n ≤ 9223372036854775807) :
    Calls Try.prog 5 #[.slice A n c, .int .u8 ah] w fun e w' => e = .returned (.bool true) ∧ Below w.heap.size w w' := by
  go_enter Try.func5, Try.ntmps5
  go_wp2_with fail
  refine (lslow_ok _).mono ?_; rintro e w1 ⟨rfl, hb1⟩
  go_wp2_with fail
  refine (pnew_ok _ _ _ _ _ _ _ _ _ (by decide) chk_slow).mono ?_; rintro e w2 ⟨p, rfl, hb2, k2⟩
  have b2 := bthen hb1 hb2
  clear k2 hb1 hb2
  go_wp2_with fail
  refine (ex30_true _).mono ?_; rintro e w3 ⟨rfl, hb3⟩
  have b3 := bthen b2 hb3
  clear hb3
  go_wp2_with fail
  go_ret
  exact ⟨rfl, b3⟩
def FeedR (w : World) (zs : List Int) (B p : Nat) (j : Nat) (wr : World) : Prop :=
  FrT w.heap.size [78, 84] w wr ∧ ∃ qv its, Clk wr B p 1000000000 0 qv its ∧ Fb zs j its
set_option maxRecDepth 100000 in
set_option maxHeartbeats 4000000 in
theorem presentfeedback_run (A : Option Addr) (zs : List Int) (c : Nat) (ah : Int) (w : World) (hn : zs.length ≤ 60) (hr : Rd w .u8 A zs) (hz : ∀ z ∈ zs, 0 ≤ z ∧ z ≤ 255) (hah : 0 ≤ ah ∧ ah ≤ 255) :
    Calls Try.prog 5 #[.slice A zs.length c, .int .u8 ah] w fun e w' => e = .returned (.bool true) ∧ Below w.heap.size w w' := by
  obtain ⟨n, hzn⟩ : ∃ n, zs.length = n := ⟨_, rfl⟩
  rw [hzn] at hn ⊢
  have HZN := Lib.hid hzn
  have HRD := Lib.hid hr
  have HZR := Lib.hid hz
  clear hzn hr hz
  go_enter Try.func5, Try.ntmps5
  go_wp2_with fail
  refine (lslow_ok _).mono ?_; rintro e w1 ⟨rfl, hb1⟩
  go_wp2_with fail
  refine (pnew_ok _ _ _ _ _ _ _ _ _ (by decide) chk_slow).mono ?_; rintro e w2 ⟨p, rfl, hb2, k2⟩
  rw [ivl_slow] at k2
  have hBw := hb1.size
  have F2 : FrT w.heap.size [78, 84] w w2 := FrT.ofBelow (bthen hb1 hb2) _ _
  have K2 := Lib.hid k2
  clear k2 hb1 hb2
  go_wp2_with fail
  go_loopg [7, 8] n (fun k s7 s8 wr => ∃ (j m : Nat), k = n - j ∧ j ≤ n ∧ s8 = .int .i64 j ∧ s7 = .int .i64 m ∧ Aside (m = cnt zs j) ∧ FeedR w zs w1.heap.size p j wr)
  case atStart => exact ⟨0, 0, by omega, by omega, by first | rfl | simp, by first | rfl | simp, rfl, F2, _, [], K2.out, Fb.nil _⟩
  case round =>
    obtain ⟨j, m, hk, hj, rfl, rfl, HM, F, qv, its, k, hfb⟩ := hrel
    have K := Lib.hid k
    have HFB := Lib.hid hfb
    have hmj : m ≤ j := by rw [HM.out]; exact cnt_le _ _
    clear k hfb
    by_cases hlt : j < n
    · obtain ⟨b, off, hA, hbl, hcz⟩ := HRD.out j (by rw [HZN.out]; omega)
      have htr := HZR.out _ (List.getElem_mem (by rw [HZN.out]; omega : j < zs.length))
      obtain ⟨t, ht⟩ : ∃ t, zs[j]'(by rw [HZN.out]; omega) = t := ⟨_, rfl⟩
      rw [ht] at hcz htr
      have HT := Lib.hid ht
      clear ht
      subst hA
      have hcr := ((F.toBelow (Nat.le_refl _)).cell (p := ⟨b, off + j, none⟩) hbl).trans hcz
      clear hcz
      have hcs := cnt_succ (zs := zs) (i := j) (by rw [HZN.out]; omega)
      rw [HT.out] at hcs
      by_cases ht0 : t = 0
      · subst ht0
        rw [if_pos rfl] at hcs
        have HCS := Lib.hid hcs
        clear hcs
        go_wp2_with fail
        go_roundg (n - (j + 1))
        case measure => omega
        case rel => exact ⟨j + 1, m, by omega, by omega, by first | rfl | simp, rfl, by rw [HCS.out]; exact HM.out, F, qv, its, K.out, HFB.out.skip (by rw [HZN.out]; omega) HT.out⟩
      · have ht1 : (t == 0) = false := by simpa using ht0
        rw [if_neg ht0] at hcs
        have HCS := Lib.hid hcs
        clear hcs
        have KA := Lib.hid (K.out.carry ((FrT.refl 0 [] wr).alloc (Obj.cells #[.int .u32 (1000 + (j : Int))] 42)) ⟨rfl, rfl, rfl⟩)
        go_wp2_with fail
        refine (pcommit_ok w1.heap.size p 1000000000 0 t _ its _ [1000 + (j : Int)] _ KA.out (by omega) (by rw [HFB.out.len, ← HM.out]; omega) (u32_one rfl) (by simp) (by simp; omega)).mono ?_; rintro e w6 ⟨rfl, f6, qv6, cv6, k6⟩
        have F6 := (F.alloc (Obj.cells #[.int .u32 (1000 + (j : Int))] 42)).trans (f6.mono hBw (fun _ h => h))
        have K6 := Lib.hid k6
        clear f6 k6
        go_wp2_with fail
        go_roundg (n - (j + 1))
        case measure => omega
        case rel =>
          have hf := HFB.out.more (by rw [HZN.out]; omega) (by rw [HT.out]; exact ht0) cv6
          rw [HT.out] at hf
          exact ⟨j + 1, m + 1, by omega, by omega, by first | rfl | simp, by first | rfl | simp, by rw [HCS.out, HM.out]; rfl, F6, qv6, _, K6.out, hf⟩
    · obtain rfl : n = j := by omega
      go_wp2_with fail
      refine (ppending_ok _ _ _ _ _ _ _ K.out).mono ?_; rintro e w7 ⟨rfl, rfl⟩
      rw [HFB.out.len, ← HM.out]
      go_wp2_with fail
      have hT : tickT 0 (1000000000 + ah * 1000000000) = 1000000000 + ah * 1000000000 := by unfold tickT clampT; split <;> (try split) <;> (try split) <;> omega
      have hnx : nxt 1000000000 0 = 1000000000 := by decide
      refine (ptick_go w1.heap.size p 1000000000 0 _ _ _ _ K.out (by omega) (by rw [hT, hnx]; omega)).mono ?_; rintro e w8 ⟨v8, rfl, f8, k8, r8⟩
      rw [hT] at k8
      rw [hnx] at r8
      have F8 := F.trans (f8.mono hBw (fun _ h => h))
      have e8 : (tickOut 1000000000 1000000000 its).length = 2 * m := by unfold tickOut; rw [tickUpto_two _ _ _ HFB.out.one _ (Nat.le_refl _), HFB.out.len, ← HM.out]
      have r8' := r8
      rw [e8] at r8'
      obtain ⟨a8, c8, hv8, hc8, _⟩ := slice_len r8'
      subst hv8
      have K8 := Lib.hid k8
      have R8 := Lib.hid r8
      have E8 := Lib.hid e8
      clear f8 k8 r8 r8' e8 hT hnx
      go_wp2_with fail
      refine (ppending_ok _ _ _ _ _ _ _ K8.out).mono ?_; rintro e w9 ⟨rfl, rfl⟩
      rw [List.length_nil]
      go_wp2_with fail
      go_loopg [10, 11] n (fun k s10 s11 wr => ∃ (j q : Nat), k = n - j ∧ j ≤ n ∧ s11 = .int .i64 j ∧ s10 = .int .i64 q ∧ Aside (q = 2 * cnt zs j) ∧ w8 = wr)
      case atStart => exact ⟨0, 0, by omega, by omega, by first | rfl | simp, by first | rfl | simp, rfl, rfl⟩
      case round =>
        obtain ⟨j, q, hk2, hj2, rfl, rfl, HQ, rfl⟩ := hrel
        have hq2 : q ≤ 2 * j := by have := cnt_le zs j; rw [HQ.out]; omega
        by_cases hlt2 : j < n
        · obtain ⟨b, off, hA, hbl, hcz⟩ := HRD.out j (by rw [HZN.out]; omega)
          have htr := HZR.out _ (List.getElem_mem (by rw [HZN.out]; omega : j < zs.length))
          obtain ⟨t, ht⟩ : ∃ t, zs[j]'(by rw [HZN.out]; omega) = t := ⟨_, rfl⟩
          rw [ht] at hcz htr
          have HT := Lib.hid ht
          clear ht
          subst hA
          have hcr := ((F8.toBelow (Nat.le_refl _)).cell (p := ⟨b, off + j, none⟩) hbl).trans hcz
          clear hcz
          have hcs := cnt_succ (zs := zs) (i := j) (by rw [HZN.out]; omega)
          rw [HT.out] at hcs
          by_cases ht0 : t = 0
          · subst ht0
            rw [if_pos rfl] at hcs
            have HCS := Lib.hid hcs
            clear hcs
            go_wp2_with fail
            go_roundg (n - (j + 1))
            case measure => omega
            case rel => exact ⟨j + 1, q, by omega, by omega, by first | rfl | simp, rfl, by rw [HCS.out]; exact HQ.out, rfl⟩
          · have ht1 : (t == 0) = false := by simpa using ht0
            rw [if_neg ht0] at hcs
            have HCS := Lib.hid hcs
            clear hcs
            go_wp2_with fail
            go_loopg [13, 14] (n - (j + 1)) (fun kk s13 s14 wy => ∃ (i : Nat) (lb : Bool), kk = n - i ∧ j + 1 ≤ i ∧ i ≤ n ∧ s14 = .int .i64 i ∧ s13 = .bool lb ∧ Aside (lb = ((zs.drop (j + 1)).take (i - (j + 1))).any (fun z => z == t)) ∧ w8 = wy)
            case atStart => exact ⟨j + 1, false, rfl, by omega, by omega, by first | rfl | simp, rfl, by rw [Nat.sub_self]; rfl, rfl⟩
            case round =>
              obtain ⟨i, lb, hk3, hi1, hi2, rfl, rfl, HL, rfl⟩ := hrel
              by_cases hlt3 : i < n
              · have hidx : (zs.drop (j + 1)).take (i + 1 - (j + 1)) = (zs.drop (j + 1)).take (i - (j + 1)) ++ [zs[i]'(by rw [HZN.out]; omega)] := by
                  rw [show i + 1 - (j + 1) = (i - (j + 1)) + 1 by omega, List.take_add_one, List.getElem?_drop, show j + 1 + (i - (j + 1)) = i by omega, List.getElem?_eq_getElem (by rw [HZN.out]; omega)]
                  rfl
                have HIX := Lib.hid hidx
                clear hidx
                cases lb with
                | true =>
                  go_wp2_with fail
                  go_roundg (n - (i + 1))
                  case measure => omega
                  case rel => exact ⟨i + 1, true, rfl, by omega, by omega, by first | rfl | simp, rfl, by rw [HIX.out, List.any_append, ← HL.out]; rfl, rfl⟩
                | false =>
                  obtain ⟨b', off', hA', hbl', hcz'⟩ := HRD.out i (by rw [HZN.out]; omega)
                  simp only [Option.some.injEq, Addr.mk.injEq, and_true] at hA'
                  obtain ⟨rfl, rfl⟩ := hA'
                  have htr' := HZR.out _ (List.getElem_mem (by rw [HZN.out]; omega : i < zs.length))
                  obtain ⟨u, hu⟩ : ∃ u, zs[i]'(by rw [HZN.out]; omega) = u := ⟨_, rfl⟩
                  rw [hu] at hcz' htr'
                  have HU := Lib.hid hu
                  clear hu
                  have hcr' := ((F8.toBelow (Nat.le_refl _)).cell (p := ⟨b, off + i, none⟩) hbl).trans hcz'
                  clear hcz'
                  by_cases hut : u = t
                  · subst hut
                    go_wp2_with fail
                    go_roundg (n - (i + 1))
                    case measure => omega
                    case rel => exact ⟨i + 1, true, rfl, by omega, by omega, by first | rfl | simp, rfl, by rw [HIX.out, List.any_append, HU.out]; simp [Aside], rfl⟩
                  · have hut1 : (u == t) = false := by simpa using hut
                    go_wp2_with fail
                    go_roundg (n - (i + 1))
                    case measure => omega
                    case rel => exact ⟨i + 1, false, rfl, by omega, by omega, by first | rfl | simp, rfl, by rw [HIX.out, List.any_append, HU.out, ← HL.out]; simp [Aside, hut1], rfl⟩
              · obtain rfl : n = i := by omega
                obtain ⟨cv, hat⟩ := HFB.out.at_ j hlt2 (by rw [HZN.out]; omega) (by rw [HT.out]; exact ht0)
                rw [HT.out] at hat
                have hlc : cnt zs j < m := by rw [HM.out]; exact cnt_lt hlt2 (by rw [HZN.out]; omega) (by rw [HT.out]; exact ht0)
                have hFF : Fb zs zs.length its := by rw [HZN.out]; exact HFB.out
                have hsup := hFF.sup (i := j) (by rw [HZN.out]; omega) (by rw [HT.out]; exact ht0)
                have hL := HL.out
                rw [List.take_of_length_le (by rw [List.length_drop, HZN.out]; omega)] at hL
                rw [HT.out, ← hL] at hsup
                obtain ⟨hd1, hd2⟩ := tickUpto_at 1000000000 1000000000 its HFB.out.one hat its.length (by rw [HFB.out.len, ← HM.out]; exact hlc) (Nat.le_refl _)
                rw [hsup, ← HQ.out] at hd2
                rw [← HQ.out] at hd1
                have hq3 : q + 1 < 2 * m := by rw [HQ.out]; omega
                obtain ⟨g, hag, hcl⟩ := dl_at R8.out (by rw [E8.out]; omega)
                subst hag
                have u1 := hcl _ _ 2 _ hd1 (by omega) rfl
                have u2 := hcl _ _ 1 _ hd1 (by omega) rfl
                have u3 := hcl _ _ 6 _ hd1 (by omega) rfl
                have HD2 := Lib.hid hd2
                have HCL := Lib.hid hcl
                simp only at u1 u2 u3
                clear hcl hd1 hd2 hsup hL hFF hat hlc
                cases lb with
                | true =>
                  have u4 := HCL.out _ _ 2 _ HD2.out (by omega) rfl
                  have u5 := HCL.out _ _ 1 _ HD2.out (by omega) rfl
                  simp only [if_true] at u4 u5
                  go_wp2_with fail
                  go_roundg (n - (j + 1))
                  case measure => omega
                  case rel => exact ⟨j + 1, q + 2, by omega, by omega, by first | rfl | simp, by first | rfl | simp, by rw [HCS.out, HQ.out]; simp [Aside]; omega, rfl⟩
                | false =>
                  have u4 := HCL.out _ _ 2 _ HD2.out (by omega) rfl
                  have u5 := HCL.out _ _ 1 _ HD2.out (by omega) rfl
                  simp only [Bool.false_eq_true, if_false] at u4 u5
                  go_wp2_with fail
                  go_roundg (n - (j + 1))
                  case measure => omega
                  case rel => exact ⟨j + 1, q + 2, by omega, by omega, by first | rfl | simp, by first | rfl | simp, by rw [HCS.out, HQ.out]; simp [Aside]; omega, rfl⟩
        · obtain rfl : n = j := by omega
          go_wp2_with fail
          have hT1 : tickT (1000000000 + ah * 1000000000) 1125899906842624 = 1125899906842624 := by unfold tickT clampT; split <;> (try split) <;> (try split) <;> omega
          have hx := nxt_rng (iv := 1000000000) (1000000000 + ah * 1000000000) (by omega)
          have hcc : clampT (1000000000 + ah * 1000000000) = 1000000000 + ah * 1000000000 := by unfold clampT; split <;> (try split) <;> omega
          rw [hcc] at hx
          refine (ptick_go w1.heap.size p 1000000000 _ _ _ _ _ K8.out (by omega) (by rw [hT1]; omega)).mono ?_; rintro e w12 ⟨v12, rfl, f12, k12, r12⟩
          have F12 := F8.trans (f12.mono hBw (fun _ h => h))
          obtain ⟨a12, c12, hv12, _, _⟩ := slice_len r12
          subst hv12
          rw [show (tickOut 1000000000 (nxt 1000000000 (1000000000 + ah * 1000000000)) []).length = 0 from rfl]
          clear f12 k12 r12 hT1 hx hcc
          go_wp2_with fail
          refine (ex30_true _).mono ?_; rintro e w13 ⟨rfl, hb13⟩
          have F13 := F12.trans (FrT.ofBelow hb13 _ _)
          clear hb13
          go_wp2_with fail
          go_ret
          exact ⟨rfl, F13.toBelow (Nat.le_refl _)⟩
theorem presentfeedback_any (A : Option Addr) (zs : List Int) (c : Nat) (ah : Int) (w : World) (hlc : zs.length ≤ c) (hc : c ≤ 9223372036854775807) (hr : Rd w .u8 A zs) (hz : ∀ z ∈ zs, 0 ≤ z ∧ z ≤ 255) (hah : 0 ≤ ah ∧ ah ≤ 255) :
    Calls Try.prog 5 #[.slice A zs.length c, .int .u8 ah] w fun e w' => e = .returned (.bool true) ∧ Below w.heap.size w w' := by
  by_cases hn : zs.length ≤ 60
  · exact presentfeedback_run A zs c ah w hn hr hz hah
  · exact presentfeedback_long A _ c ah w ⟨by omega, by omega⟩
end Go.Proofs.Ytijfldgkmbhdoaa
