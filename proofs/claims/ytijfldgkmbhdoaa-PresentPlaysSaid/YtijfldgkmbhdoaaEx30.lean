/- The examples of chapter 30. -/
import Derived.Test.YtijfldgkmbhdoaaTick2
set_option linter.unusedVariables false
set_option linter.unusedSimpArgs false
namespace Go.Proofs.Ytijfldgkmbhdoaa
open Go.RowKit
attribute [local go_sem ↓] Go.wp_at_zero Go.wp_at_succ

abbrev nmO : ByteArray := ⟨#[111]⟩
theorem lslow_ok (w : World) : Calls Try.prog 20 #[] w fun e w' => e = .returned (outv nmO 1 1 1000 1 0 0 0) ∧ Below w.heap.size w w' := by
  go_enter Try.func20, Try.ntmps20
  go_wp2
  have K : Blk (w.alloc (.cells #[.string nmO, .int .i64 1, .int .i64 1, .int .i64 1000, .int .i64 1, .int .i64 0, .int .i64 0, .int .i64 0] 30)) w.heap.size 30 #[.string nmO, .int .i64 1, .int .i64 1, .int .i64 1000, .int .i64 1, .int .i64 0, .int .i64 0, .int .i64 0] := Blk.new _ _ _
  (try simp only [Exit.inBlock, Exit.then])
  refine bodyPost_ret (results_cell_row rfl _ _ _ _ _ _ _ rfl K Try.underlying30 rfl (by kernel_rfl)) rfl ?_
  exact ⟨rfl, by (with_reducible repeat (first | assumption | exact Below.refl _ _ | refine Below.setCell ?_ (by first | omega | (simp; done) | (simp; omega)) _ | refine Below.drew ?_ | refine bdrewN ?_ _ | refine Below.alloc ?_ (by first | omega | (simp; done) | (simp; omega)) _))⟩
theorem chk_slow : chkIs nmO 1 1 1000 1 0 0 0 0 := by
  refine .inr (.inr (.inr ⟨?_, ?_, ?_, rfl⟩))
  · exact ⟨by simp [ByteArray.toList_eq], by decide, by omega, by omega⟩
  · unfold rngOk sizeOk; decide
  · unfold plcOk inC shw; decide
theorem ivl_slow : ivl 1000 = 1000000000 := by decide
theorem clk_facts {w : World} {B p : Nat} {iv now : Int} {qv : Value} {its : List Itm} (k : Clk w B p iv now qv its) : w.cell? ⟨p, 0, none⟩ = some (.int .i64 iv) ∧ w.cell? ⟨p, 1, none⟩ = some (.int .i64 now) := ⟨k.blk.cell 0, k.blk.cell 1⟩
theorem u32_lit {w : World} {zs : List Int} {n : Nat} (h : w.heap.size = n) : Src (w.alloc (.cells (zs.map (Value.int .u32)).toArray 42)) 1 (.slice (some ⟨n, 0, none⟩) zs.length zs.length) zs.length (zs.map (Value.int .u32)) :=
  Src.blk (cs := (zs.map (Value.int .u32)).toArray) (Blk.newAt h) (by simp) (by simp [Value.oneCell']) _

set_option maxRecDepth 100000 in
set_option maxHeartbeats 4000000 in
theorem ex30_true (w : World) : Calls Try.prog 17 #[] w fun e w' => e = .returned (.bool true) ∧ Below w.heap.size w w' := by
  go_enter Try.func17, Try.ntmps17
  go_wp2_with fail
  refine (lslow_ok _).mono ?_; rintro e w1 ⟨rfl, hb1⟩
  go_wp2_with fail
  refine (pnew_ok _ _ _ _ _ _ _ _ _ (by decide) chk_slow).mono ?_; rintro e w2 ⟨p, rfl, hb2, k2⟩
  rw [ivl_slow] at k2
  have b2 : Below w.heap.size w w2 := bthen hb1 hb2
  have hb1s := hb1.size
  obtain ⟨c0, c1⟩ := clk_facts k2
  have K2 := Lib.hid k2
  clear k2 hb1 hb2
  have F2 : FrT w.heap.size [78, 84] w w2 := FrT.ofBelow b2 _ _
  have hBw : w.heap.size ≤ w1.heap.size := hb1s
  go_wp2_with fail; refine (pnext_ok p 1000000000 0 w2 (clk_facts K2.out).1 (by omega) (by omega)).mono ?_; rintro e w3 ⟨rfl, hb3⟩; rw [show nxt 1000000000 0 = 1000000000 by decide]; have F3 := F2.trans (FrT.ofBelow hb3 _ _); have K3 := Lib.hid (K2.out.below hb3); clear hb3
  go_wp2_with fail; refine (pnext_ok p 1000000000 999999999 w3 (clk_facts K3.out).1 (by omega) (by omega)).mono ?_; rintro e w4 ⟨rfl, hb4⟩; rw [show nxt 1000000000 999999999 = 1000000000 by decide]; have F4 := F3.trans (FrT.ofBelow hb4 _ _); have K4 := Lib.hid (K3.out.below hb4); clear hb4
  go_wp2_with fail; refine (pnext_ok p 1000000000 1000000000 w4 (clk_facts K4.out).1 (by omega) (by omega)).mono ?_; rintro e w5 ⟨rfl, hb5⟩; rw [show nxt 1000000000 1000000000 = 2000000000 by decide]; have F5 := F4.trans (FrT.ofBelow hb5 _ _); have K5 := Lib.hid (K4.out.below hb5); clear hb5
  have K5a := Lib.hid (K5.out.carry ((FrT.refl 0 [] w5).alloc (Obj.cells #[.int .u32 7, .int .u32 8] 42)) ⟨rfl, rfl, rfl⟩)
  have S5 := Lib.hid (u32_lit (w := w5) (zs := [7, 8]) rfl)
  go_wp2_with fail
  refine (pcommit_ok w1.heap.size p 1000000000 0 5 _ [] _ [7, 8] _ K5a.out (by omega) (by decide) S5.out (by decide) (by decide)).mono ?_; rintro e w6 ⟨rfl, f6, qv6, cv6, k6⟩
  have F6 := (F5.alloc (Obj.cells #[.int .u32 7, .int .u32 8] 42)).trans (f6.mono hBw (fun _ h => h))
  have K6 := Lib.hid k6
  clear f6 k6 K5 K5a S5
  go_wp2_with fail
  refine (ptick_still w1.heap.size p 1000000000 0 999999999 _ _ _ K6.out (by omega) (by decide)).mono ?_; rintro e w7 ⟨rfl, f7, k7⟩
  have F7 := F6.trans (f7.mono hBw (fun _ h => h))
  rw [show tickT 0 999999999 = 999999999 by decide] at k7
  have K7 := Lib.hid k7
  clear f7 k7 K6
  go_wp2_with fail
  refine (ptick_go w1.heap.size p 1000000000 999999999 2000000005 _ _ _ K7.out (by omega) (by decide)).mono ?_; rintro e w8 ⟨v8, rfl, f8, k8, r8⟩
  have F8 := F7.trans (f8.mono hBw (fun _ h => h))
  rw [show tickT 999999999 2000000005 = 2000000005 by decide] at k8
  have e8 : tickOut 1000000000 (nxt 1000000000 999999999) ([] ++ [⟨5, cv6, [7, 8]⟩]) = [⟨5, 19, 1000, 7⟩, ⟨5, 19, 1000, 8⟩, ⟨5, 22, 1000000, 1⟩] := by rfl
  rw [e8] at r8
  obtain ⟨g8, cap8, hv8, hcap8, hgl8, hc8⟩ := dl_cells r8 (by decide)
  subst hv8
  have HC8 := Lib.hid hc8
  have K8 := Lib.hid k8
  clear e8 hc8 k8 r8 f8
  have u9 := HC8.out 9 _ rfl
  have u10 := HC8.out 10 _ rfl
  have u11 := HC8.out 11 _ rfl
  have u12 := HC8.out 12 _ rfl
  have u13 := HC8.out 13 _ rfl
  have u14 := HC8.out 14 _ rfl
  have u15 := HC8.out 15 _ rfl
  have u16 := HC8.out 16 _ rfl
  have u17 := HC8.out 17 _ rfl
  have u18 := HC8.out 18 _ rfl
  have u19 := HC8.out 19 _ rfl
  have u20 := HC8.out 20 _ rfl
  have u21 := HC8.out 21 _ rfl
  have u22 := HC8.out 22 _ rfl
  have u23 := HC8.out 23 _ rfl
  have u24 := HC8.out 24 _ rfl
  have u25 := HC8.out 25 _ rfl
  have u26 := HC8.out 26 _ rfl
  go_wp2_with fail
  refine (psequence_ok p 1000000000 2000000005 w8 (clk_facts K8.out).1 (clk_facts K8.out).2 (by omega) (by omega)).mono ?_; rintro e w9 ⟨rfl, hb9⟩
  rw [show (2000000005 : Int) / 1000000000 = 2 by decide]
  have F9 := F8.trans (FrT.ofBelow hb9 _ _)
  have K9 := Lib.hid (K8.out.below hb9)
  clear hb9 u9 u10 u11 u12 u13 u14 u15 u16 u17 u18 u19 u20 u21 u22 u23 u24 u25 u26
  go_wp2_with fail
  refine (pcommit_ok w1.heap.size p 1000000000 2000000005 5 _ [] _ [] _ K9.out (by omega) (by decide) (Src.nil _ _) (by decide) (by decide)).mono ?_; rintro e w10 ⟨rfl, f10, qv10, cv10, k10⟩
  have F10 := F9.trans (f10.mono hBw (fun _ h => h))
  have K10 := Lib.hid k10
  clear f10 k10
  go_wp2_with fail
  refine (pcommit_ok w1.heap.size p 1000000000 2000000005 5 _ _ _ [] _ K10.out (by omega) (by simp) (Src.nil _ _) (by decide) (by decide)).mono ?_; rintro e w11 ⟨rfl, f11, qv11, cv11, k11⟩
  have F11 := F10.trans (f11.mono hBw (fun _ h => h))
  have K11 := Lib.hid k11
  clear f11 k11
  go_wp2_with fail
  refine (ptick_go w1.heap.size p 1000000000 2000000005 3000000000 _ _ _ K11.out (by omega) (by decide)).mono ?_; rintro e w12 ⟨v12, rfl, f12, k12, r12⟩
  have F12 := F11.trans (f12.mono hBw (fun _ h => h))
  have e12 : tickOut 1000000000 (nxt 1000000000 2000000005) (([] ++ [⟨5, cv10, []⟩]) ++ [⟨5, cv11, []⟩]) = [⟨5, 23, 0, 0⟩, ⟨5, 22, 3000000, 3⟩] := by rfl
  rw [e12] at r12
  obtain ⟨g12, cap12, hv12, hcap12, hgl12, hc12⟩ := dl_cells r12 (by decide)
  subst hv12
  have HC12 := Lib.hid hc12
  clear e12 hc12 k12 r12 f12
  have u0 := HC12.out 0 _ rfl
  have u1 := HC12.out 1 _ rfl
  have u2 := HC12.out 2 _ rfl
  have u3 := HC12.out 3 _ rfl
  have u4 := HC12.out 4 _ rfl
  have u5 := HC12.out 5 _ rfl
  have u6 := HC12.out 6 _ rfl
  have u7 := HC12.out 7 _ rfl
  have u8 := HC12.out 8 _ rfl
  have u9 := HC12.out 9 _ rfl
  have u10 := HC12.out 10 _ rfl
  have u11 := HC12.out 11 _ rfl
  have u12 := HC12.out 12 _ rfl
  have u13 := HC12.out 13 _ rfl
  have u14 := HC12.out 14 _ rfl
  have u15 := HC12.out 15 _ rfl
  have u16 := HC12.out 16 _ rfl
  have u17 := HC12.out 17 _ rfl
  go_wp2_with fail
  go_ret
  exact ⟨rfl, F12.toBelow (Nat.le_refl _)⟩
end Go.Proofs.Ytijfldgkmbhdoaa
