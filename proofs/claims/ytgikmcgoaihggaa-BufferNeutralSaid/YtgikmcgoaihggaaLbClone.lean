/- The law's clone of a buffer. -/
import Derived.Test.YtgikmcgoaihggaaBClone
import Derived.Deep.RegionLaw
set_option linter.unusedVariables false
set_option linter.unusedSimpArgs false
namespace Go.Proofs.Ytgikmcgoaihggaa
open Go.RowKit Go.Sort
attribute [local go_sem ↓] Go.wp_at_zero Go.wp_at_succ

/-- Results: one variable in memory. -/
theorem results_c1 {P : Program} {fn : Func} {p : Tmp} {ty : TypeId} (h : fn.results = #[.cell p ty]) (tmps : Array Value) {w : World} {g : Nat} {cs : Array Value} {d : TypeDesc}
    (hb : Blk w g ty cs) (hp : tmps.getD p undef = .pointer (some ⟨g, 0, none⟩))
    (hu : P.underlying ty = some d) (hd : (match d with | .struct _ | .array _ _ => true | _ => false) = true) (hi : (P.info? ty).map (·.size) = some cs.size) :
    (results fn tmps).run P w = .ok (.agg cs) w := by
  have e := run_loadVar_row (P := P) w g ty ty cs (0, 0) d hb hu hd hi
  have hp' : tmps[p]?.getD undef = .pointer (some ⟨g, 0, none⟩) := by simpa using hp
  simp [results, h, hp', asAddr, e]
/-- A buffer of the call's own. -/
def BufO (w : World) (bw bh : Int) (ps : List Px) (e : Ending) (w' : World) : Prop := ∃ v, e = .returned (bufv bw bh v) ∧ Below w.heap.size w w' ∧ OwnP w' w.heap.size v ps
set_option maxRecDepth 100000 in
set_option maxHeartbeats 2000000 in
theorem lbclone_any (bw bh : Int) (A : Option Addr) (ps : List Px) (c : Nat) (w : World) (hr : Rdp w A ps) (hl : ps.length ≤ 400000) (h0 : ps.length = 0 → A = none → c = 0) :
    Calls Try.prog 33 #[bufv bw bh (.slice A ps.length c)] w (BufO w bw bh ps) := by
  have hs := Rdp.src (c := c) hr h0
  obtain ⟨n, hn⟩ : ∃ n, ps.length = n := ⟨_, rfl⟩
  rw [hn] at hs hl ⊢
  have HS := Lib.hid hs
  have HN := Lib.hid hn
  have hA1 : 0 + n ≤ 1000000 := by omega
  clear hs hn h0 hr
  go_enter Try.func33, Try.ntmps33
  go_upto_region 1 with fail
  generalize hWd : World.alloc (World.alloc _ _) _ = w0
  have hzW : w0.heap.size = w.heap.size + 1 + 1 := by subst hWd; simp
  have hB0 : Below w.heap.size w w0 := by subst hWd; (with_reducible repeat (first | assumption | exact Below.refl _ _ | refine Below.setCell ?_ (by first | omega | (simp; done) | (simp; omega)) _ | refine Below.drew ?_ | refine bdrewN ?_ _ | refine Below.alloc ?_ (by first | omega | (simp; done) | (simp; omega)) _))
  have K1 : Blk w0 w.heap.size 27 #[.int .i64 bw, .int .i64 bh, .slice A n c] := by subst hWd; (with_reducible repeat (first | assumption | (refine Blk.newAt ?_; first | rfl | (simp; done)) | refine Blk.alloc ?_ _ | refine Blk.drew ?_ | refine Blk.other ?_ (by simp) _))
  have K2 : Blk w0 (w.heap.size + 1) 27 #[.int .i64 0, .int .i64 0, .slice none 0 0] := by subst hWd; (with_reducible repeat (first | assumption | (refine Blk.newAt ?_; first | rfl | (simp; done)) | refine Blk.alloc ?_ _ | refine Blk.drew ?_ | refine Blk.other ?_ (by simp) _))
  have hz1 : w.heap.size < w0.heap.size := by omega
  have hz2 : w.heap.size + 1 < w0.heap.size := by omega
  obtain ⟨⟨c0, _⟩, ⟨c1, _⟩, c2, _⟩ := K1.c3
  obtain ⟨⟨p0, q0⟩, ⟨p1, q1⟩, p2, q2⟩ := K2.c3
  have HB0 := Lib.hid hB0
  have HK1 := Lib.hid K1
  have HK2 := Lib.hid K2
  have hx1 : w.heap.size ≠ w0.heap.size := Nat.ne_of_lt hz1
  have hx2 : w.heap.size + 1 ≠ w0.heap.size := Nat.ne_of_lt hz2
  clear hWd hB0 K1 K2
  go_region_law (refine step_app _ [43] rfl el_px (.tmp 7) (.tmp 9) rfl w0.heap.size (.slice (some ⟨w.heap.size + 1 + 1, 0, none⟩) 0 0) 0 [] rfl (ownsRow_empty hzW (Nat.le_of_eq hzW)).drew (.slice A n c) n (pxCells ps) rfl (Src.below (HB0.out.alloc (Nat.le_of_lt hz1) _).drew HS.out) hA1 (by decide) (by simp) rfl ?_; intro v7 w7 hr7 hf7; have hb7 : Below w0.heap.size w0 w7 := ((Below.refl _ _).alloc (Nat.le_refl _) _).drew.trans (hf7.toBelow (by simp)); have K7 := Blk.below hb7 HK1.out; obtain ⟨⟨c0, _⟩, ⟨c1, _⟩, c2, _⟩ := K7.c3; obtain ⟨⟨p0, q0⟩, ⟨p1, q1⟩, p2, q2⟩ := (Blk.below hb7 HK2.out).c3; simp only [Nat.zero_add, List.nil_append] at hr7; obtain ⟨a7, e7, hv7, _, _⟩ := slice_lenB hr7; subst hv7; have HR7 := Lib.hid hr7; have HB7 := Lib.hid hb7; clear hr7 hb7 K7 hf7)
  all_goals
    go_wp2_with fail
    have K7 := Blk.below HB7.out HK2.out
    obtain ⟨KE, FE⟩ := K7.set3 (.int .i64 bw) (.int .i64 bh) (.slice a7 n e7)
    refine bodyPost_ret (results_c1 rfl _ KE rfl Try.underlying27 rfl (by kernel_rfl)) rfl ?_
    refine ⟨_, rfl, by have := bon HB0.out HB0.out.size HB7.out; (with_reducible repeat (first | assumption | exact Below.refl _ _ | refine Below.setCell ?_ (by first | omega | (simp; done) | (simp; omega)) _ | refine Below.drew ?_ | refine bdrewN ?_ _ | refine Below.alloc ?_ (by first | omega | (simp; done) | (simp; omega)) _)), ?_⟩
    show World.ownsRow _ _ _ _ _ ps.length _
    rw [HN.out]
    exact ownsRow_mono (FE.row HR7.out (.inl rfl)) (Nat.le_of_lt hz1)
end Go.Proofs.Ytgikmcgoaihggaa
