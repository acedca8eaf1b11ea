/- BufferDecode: the walk. -/
import Derived.Test.YtgikmcgoaihggaaBEx
import Derived.Test.YtgikmcgoaihggaaBEq
import Derived.Test.YtgikmcgoaihggaaOpenB
set_option linter.unusedVariables false
set_option linter.unusedSimpArgs false
namespace Go.Proofs.Ytgikmcgoaihggaa
open Go.RowKit
attribute [local go_sem ↓] Go.wp_at_zero Go.wp_at_succ

set_option maxRecDepth 100000 in
set_option maxHeartbeats 4000000 in
theorem bufferdecode_any (a b c d : Int) (A : Option Addr) (zs : List Int) (k : Nat) (w : World) (hd : i64R d) (hl : zs.length ≤ k ∧ k ≤ 9223372036854775807) (hr : Rd w .u8 A zs) (hz : ∀ z ∈ zs, 0 ≤ z ∧ z ≤ 255) :
    Calls Try.prog 3 #[.agg #[.int .i64 a, .int .i64 b, .int .i64 c, .int .i64 d], .slice A zs.length k] w fun e w' => e = .returned (.bool true) ∧ Below w.heap.size w w' := by
  have hB := fun W (h : Below w.heap.size w W) => bdecode_any a b c d A zs k W (by unfold i64R at hd; omega) hl (hr.below h) hz
  have hV := fun W (h : Below w.heap.size w W) => vdecode_any a b c d A zs k W (by unfold i64R at hd; omega) hl (hr.below h) hz
  obtain ⟨n, hn⟩ : ∃ n, zs.length = n := ⟨_, rfl⟩
  rw [hn] at hB hV hl ⊢
  generalize decB a b c d zs = D at *
  obtain ⟨dw, dh, ps⟩ := D
  generalize decE a b c d n = E at *
  unfold BufE at hB hV
  simp only at hB hV
  have HB := Lib.hid hB
  have HV := Lib.hid hV
  obtain ⟨hl1, hl2⟩ := hl
  clear hB hV hn hr hz hd
  by_cases h4 : 4000 < n
  · go_enter Try.func3, Try.ntmps3
    go_wp2_with fail
    refine (lbex_true _).mono ?_; rintro e w3 ⟨rfl, hb_w3⟩
    have hB3 : Below w.heap.size w w3 := bon (by (with_reducible repeat (first | assumption | exact Below.refl _ _ | refine Below.setCell ?_ (by first | omega | (simp; done) | (simp; omega)) _ | refine Below.drew ?_ | refine bdrewN ?_ _ | refine Below.alloc ?_ (by first | omega | (simp; done) | (simp; omega)) _))) (by simp) hb_w3
    clear hb_w3
    go_wp2_with fail
    go_ret
    exact ⟨rfl, hB3⟩
  · go_enter Try.func3, Try.ntmps3
    go_wp2_with fail
    refine (HB.out _ (by (with_reducible repeat (first | assumption | exact Below.refl _ _ | refine Below.setCell ?_ (by first | omega | (simp; done) | (simp; omega)) _ | refine Below.drew ?_ | refine bdrewN ?_ _ | refine Below.alloc ?_ (by first | omega | (simp; done) | (simp; omega)) _)))).mono ?_; rintro e w2 ⟨v2, rfl, hb_w2, ho2⟩
    have hB2 : Below w.heap.size w w2 := bon (by (with_reducible repeat (first | assumption | exact Below.refl _ _ | refine Below.setCell ?_ (by first | omega | (simp; done) | (simp; omega)) _ | refine Below.drew ?_ | refine bdrewN ?_ _ | refine Below.alloc ?_ (by first | omega | (simp; done) | (simp; omega)) _))) (by simp) hb_w2
    have K2 : Blk w2 (w.heap.size) 22 #[.int .i64 a, .int .i64 b, .int .i64 c, .int .i64 d] := Blk.below hb_w2 (by (with_reducible repeat (first | assumption | (refine Blk.newAt ?_; first | rfl | (simp; done)) | refine Blk.alloc ?_ _ | refine Blk.drew ?_ | refine Blk.other ?_ (by simp) _)))
    obtain ⟨⟨c0, _⟩, ⟨c1, _⟩, ⟨c2, _⟩, c3, _⟩ := K2.c4
    obtain ⟨a2, k2, hv2, _, hk2, hr2⟩ := ho2.form
    subst hv2
    have HR2 := Lib.hid hr2
    have hz2 := hB2.size
    have hl2' : ps.length ≤ 9223372036854775807 := by omega
    have q0 : w.heap.size < w2.heap.size := K2.lt
    clear hb_w2 ho2 hr2 K2
    go_wp2_with fail
    have hW2 : Below w2.heap.size w2 (w2.alloc (.cells #[.int .i64 dw, .int .i64 dh, .slice a2 ps.length k2] 27)) := (Below.refl _ _).alloc (Nat.le_refl _) _
    have K5 : Blk (w2.alloc (.cells #[.int .i64 dw, .int .i64 dh, .slice a2 ps.length k2] 27)) w2.heap.size 27 #[.int .i64 dw, .int .i64 dh, .slice a2 ps.length k2] := Blk.new _ _ _
    refine (HV.out _ (bon hB2 hB2.size hW2)).mono ?_; rintro e w3 ⟨v3, rfl, hb3, ho3⟩
    have hB3 : Below w.heap.size w w3 := bon (bon hB2 hB2.size hW2) (by simp; omega) hb3
    obtain ⟨⟨d0, _⟩, ⟨d1, _⟩, d2, _⟩ := (Blk.below hb3 K5).c3
    obtain ⟨a3, k3, hv3, _, hk3, hr3⟩ := ho3.form
    subst hv3
    have HR2' := Lib.hid (HR2.out.below (bon hW2 hW2.size hb3))
    have HR3 := Lib.hid hr3
    have q1 : w2.heap.size < w3.heap.size := (Blk.below hb3 K5).lt
    clear hb3 ho3 hr3 K5 hW2 c0 c1 c2 c3
    go_wp2_with fail
    have hW3 : Below w3.heap.size w3 (w3.alloc (.cells #[.int .i64 dw, .int .i64 dh, .slice a3 ps.length k3] 27)) := (Below.refl _ _).alloc (Nat.le_refl _) _
    refine (vequal_any dw dh a2 ps k2 dw dh a3 ps k3 _ (HR2'.out.below hW3) (HR3.out.below hW3) hl2' hl2').mono ?_; rintro e w4 ⟨rfl, hb4⟩
    have hB4 : Below w.heap.size w w4 := bon (bon hB3 hB3.size hW3) (by simp; omega) hb4
    rw [eqB_self]
    clear hb4 hW3
    go_wp2_with fail
    refine (lbex_true _).mono ?_; rintro e w5 ⟨rfl, hb5⟩
    have hB5 := bon hB4 hB4.size hb5
    clear hb5
    go_wp2_with fail
    go_ret
    exact ⟨rfl, hB5⟩
end Go.Proofs.Ytgikmcgoaihggaa
