/- Tick. -/
import Derived.Test.YtijfldgkmbhdoaaTick1
import Derived.Test.YtijfldgkmbhdoaaTail
import Derived.Deep.Cut
set_option linter.unusedVariables false
set_option linter.unusedSimpArgs false
namespace Go.Proofs.Ytijfldgkmbhdoaa
open Go.RowKit
attribute [local go_sem ↓] Go.wp_at_zero Go.wp_at_succ

theorem ptick_nil (t : Int) (w : World) : Calls Try.prog 23 #[.pointer none, .int .i64 t] w fun e w' => e = .returned (.slice none 0 0) ∧ w = w' := by
  go_enter Try.func23, Try.ntmps23
  go_wp2_with (go_at_call 44; refine (pusable_nil _).mono ?_; rintro e w' ⟨rfl, rfl⟩)
  go_ret
  exact ⟨rfl, rfl⟩
/-- The time behind a tick. -/
def tickT (now t : Int) : Int := if now < clampT t then clampT t else now
def Still (w : World) (B p : Nat) (iv now : Int) (qv : Value) (its : List Itm) (e : Ending) (w' : World) : Prop :=
  e = .returned (.slice none 0 0) ∧ FrT B [78, 84] w w' ∧ Clk w' B p iv now qv its
theorem still_end {w w1 : World} {B p : Nat} {iv now c : Int} {qv : Value} {its : List Itm} (k : Clk w B p iv now qv its) (hb : Below w.heap.size w w1) (n : Nat) (hc : 0 ≤ c ∧ c ≤ 4611686018427387904) :
    FrT B [78, 84] w ((w1.drewN n).setCell ⟨p, 1, none⟩ (.int .i64 c)) ∧ Clk ((w1.drewN n).setCell ⟨p, 1, none⟩ (.int .i64 c)) B p iv c qv its := by
  have k1 : Clk (w1.drewN n) B p iv now qv its := k.carry ((FrT.ofBelow hb 0 []).drewN n) ⟨rfl, rfl, rfl⟩
  have f1 : FrT B [78] (w1.drewN n) ((w1.drewN n).setCell ⟨p, 1, none⟩ (.int .i64 c)) := (FrT.refl _ _ _).set k1.blk rfl k.base _
  refine ⟨(((FrT.ofBelow hb B [78, 84]).drewN n).trans (f1.mono (Nat.le_refl _) (by simp))), k.base, k1.blk.set 1 _, k1.que.carry f1 ⟨rfl, rfl⟩, k.ivr, hc⟩
set_option maxRecDepth 100000 in
set_option maxHeartbeats 1000000 in
theorem ptick_still (B p : Nat) (iv now t : Int) (qv : Value) (its : List Itm) (w : World) (k : Clk w B p iv now qv its) (ht : -9223372036854775808 ≤ t ∧ t < 9223372036854775808) (hb : tickT now t < nxt iv now) :
    Calls Try.prog 23 #[.pointer (some ⟨p, 0, none⟩), .int .i64 t] w (Still w B p iv (tickT now t) qv its) := by
  obtain ⟨⟨c0, f0⟩, ⟨c1, f1⟩, c2, f2⟩ := k.blk.c3
  have hi := k.ivr
  have hnr := k.nowr
  have hn := nxt_rng now hi
  have hcn : clampT now = now := by unfold clampT; rw [if_neg (by omega), if_neg (by omega)]
  rw [hcn] at hn
  have hN := fun W c => pnext_ok p iv now W c hi (by omega)
  have hC := fun W => pclamp_any t W ht
  have hcr := clampT_rng t
  have hpl := k.blk.lt
  unfold tickT at hb ⊢
  generalize clampT t = c at *
  generalize nxt iv now = bl at *
  have HK := Lib.hid k
  have HC := Lib.hid hC
  have HNX := Lib.hid hN
  clear k hC hN hcn
  by_cases hnc : now < c
  · rw [if_pos hnc] at hb ⊢
    go_enter Try.func23, Try.ntmps23
    go_wp2_with (first | (go_at_call 44; refine (pusable_yes _ _ _ c0 hi.1).mono ?_; rintro e w' ⟨rfl, rfl⟩) | (go_at_call 18; refine (HNX.out _ c0).mono ?_; rintro e w1 ⟨rfl, hb1⟩; have K1 := Blk.below hb1 HK.out.blk; obtain ⟨⟨d0, g0⟩, ⟨d1, g1⟩, d2, g2⟩ := K1.c3; have HK1 := Lib.hid K1; clear K1))
    (refine wp_region_quiet_tail_drew 8 (by kernel_rfl) (by kernel_rfl) ?_; simp only [List.take_succ_cons, List.take_zero, List.drop_succ_cons, List.drop_zero]; (repeat (go_big_quiet_step ((go_at_call 45; exact quiet_mine (HC.out _))))); refine wpQuiet_nil ?_; intro _ hw'; obtain ⟨nq, hw''⟩ := hw'; subst hw'')
    go_wp2
    go_ret
    exact ⟨rfl, still_end HK.out hb1 nq ⟨by omega, by omega⟩⟩
  · rw [if_neg hnc] at hb ⊢
    go_enter Try.func23, Try.ntmps23
    go_wp2_with (first | (go_at_call 44; refine (pusable_yes _ _ _ c0 hi.1).mono ?_; rintro e w' ⟨rfl, rfl⟩) | (go_at_call 18; refine (HNX.out _ c0).mono ?_; rintro e w1 ⟨rfl, hb1⟩; have K1 := Blk.below hb1 HK.out.blk; obtain ⟨⟨d0, g0⟩, ⟨d1, g1⟩, d2, g2⟩ := K1.c3; have HK1 := Lib.hid K1; clear K1))
    (refine wp_region_quiet_tail_drew 8 (by kernel_rfl) (by kernel_rfl) ?_; simp only [List.take_succ_cons, List.take_zero, List.drop_succ_cons, List.drop_zero]; (repeat (go_big_quiet_step ((go_at_call 45; exact quiet_mine (HC.out _))))); refine wpQuiet_nil ?_; intro _ hw'; obtain ⟨nq, hw''⟩ := hw'; subst hw'')
    go_wp2
    go_ret
    exact ⟨rfl, still_end HK.out hb1 nq ⟨by omega, by omega⟩⟩
end Go.Proofs.Ytijfldgkmbhdoaa
