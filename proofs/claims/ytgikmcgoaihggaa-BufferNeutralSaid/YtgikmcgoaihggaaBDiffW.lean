/- The program's Diff and OpaqueRegion, whole. -/
import Derived.Test.YtgikmcgoaihggaaBDiff
set_option linter.unusedVariables false
set_option linter.unusedSimpArgs false
namespace Go.Proofs.Ytgikmcgoaihggaa
open Go.RowKit Go.Sort
attribute [local go_sem ↓] Go.wp_at_zero Go.wp_at_succ
attribute [local go_sem] calm calmAt calmUpon

def diffR (w h : Int) (p1 p2 : List Px) : List Rc := allR (diffM p1 p2) w.toNat h.toNat
def diffE (w1 h1 : Int) (p1 : List Px) (w2 h2 : Int) (p2 : List Px) : Int :=
  if bufB w1 h1 p1 = true ∧ bufB w2 h2 p2 = true then (if w1 = w2 ∧ h1 = h2 then (if 256 < (diffR w1 h1 p1 p2).length then 5 else 0) else 2) else 15
def diffL (w1 h1 : Int) (p1 : List Px) (w2 h2 : Int) (p2 : List Px) : List Rc := if diffE w1 h1 p1 w2 h2 p2 = 0 then diffR w1 h1 p1 p2 else []
def opqR (w h : Int) (p : List Px) : List Rc := allR (opqM p) w.toNat h.toNat
def opqE (w h : Int) (p : List Px) : Int := if bufB w h p = true then (if 256 < (opqR w h p).length then 5 else 0) else 15
def opqL (w h : Int) (p : List Px) : List Rc := if opqE w h p = 0 then opqR w h p else []
def RectsOk (w : World) (E : Int) (L : List Rc) (e : Ending) (w' : World) : Prop :=
  ∃ v, e = .returned (.tuple #[v, .int .i64 E]) ∧ Below w.heap.size w w' ∧ OwnR w' w.heap.size v L
theorem cut5 (l : List Rc) : (if (if 256 < l.length then (5 : Int) else 0) = 0 then l else []) = if 256 < l.length then [] else l := by
  by_cases h : 256 < l.length
  · rw [if_pos h, if_pos h]; rfl
  · rw [if_neg h, if_neg h]; rfl
theorem bufB_nat {w h : Int} {p : List Px} (k : bufB w h p = true) : ∃ W H : Nat, w = W ∧ h = H ∧ (1 ≤ W ∧ W ≤ 256) ∧ (1 ≤ H ∧ H ≤ 256) ∧ p.length = H * W := by
  obtain ⟨h1, h2, h3⟩ := bufB_small k
  obtain ⟨W, rfl⟩ := Int.eq_ofNat_of_zero_le (show 0 ≤ w by omega)
  obtain ⟨H, rfl⟩ := Int.eq_ofNat_of_zero_le (show 0 ≤ h by omega)
  have e : ((W * H : Nat) : Int) = (W : Int) * (H : Int) := by simp
  exact ⟨W, H, rfl, rfl, by omega, by omega, by rw [Nat.mul_comm]; omega⟩
section
variable {w1 h1 w2 h2 : Int} {p1 p2 : List Px}
theorem diff_bad (h : ¬ (bufB w1 h1 p1 = true ∧ bufB w2 h2 p2 = true)) : diffE w1 h1 p1 w2 h2 p2 = 15 ∧ diffL w1 h1 p1 w2 h2 p2 = [] := by
  have e : diffE w1 h1 p1 w2 h2 p2 = 15 := by unfold diffE; rw [if_neg h]
  exact ⟨e, by unfold diffL; rw [e]; rfl⟩
theorem diff_size (h : bufB w1 h1 p1 = true ∧ bufB w2 h2 p2 = true) (h' : ¬ (w1 = w2 ∧ h1 = h2)) : diffE w1 h1 p1 w2 h2 p2 = 2 ∧ diffL w1 h1 p1 w2 h2 p2 = [] := by
  have e : diffE w1 h1 p1 w2 h2 p2 = 2 := by unfold diffE; rw [if_pos h, if_neg h']
  exact ⟨e, by unfold diffL; rw [e]; rfl⟩
theorem diff_run (h : bufB w1 h1 p1 = true ∧ bufB w2 h2 p2 = true) (h' : w1 = w2 ∧ h1 = h2) : diffE w1 h1 p1 w2 h2 p2 = (if 256 < (diffR w1 h1 p1 p2).length then 5 else 0) ∧ diffL w1 h1 p1 w2 h2 p2 = if 256 < (diffR w1 h1 p1 p2).length then [] else diffR w1 h1 p1 p2 := by
  have e : diffE w1 h1 p1 w2 h2 p2 = (if 256 < (diffR w1 h1 p1 p2).length then 5 else 0) := by unfold diffE; rw [if_pos h, if_pos h']
  exact ⟨e, by unfold diffL; rw [e, cut5]⟩
end
set_option maxRecDepth 100000 in
set_option maxHeartbeats 4000000 in
theorem bopaque_any (w1 h1 : Int) (A1 : Option Addr) (p1 : List Px) (k1 : Nat) (w : World) (r1 : Rdp w A1 p1) (hl1 : p1.length ≤ 9223372036854775807) :
    Calls Try.prog 20 #[bufv w1 h1 (.slice A1 p1.length k1)] w (RectsOk w (opqE w1 h1 p1) (opqL w1 h1 p1)) := by
  have hV := fun W (hb : Below w.heap.size w W) => bvalid_any w1 h1 A1 p1 k1 W (r1.below hb) hl1
  unfold opqL opqE
  cases k : bufB w1 h1 p1 with
  | false =>
    rw [k] at hV
    have HV := Lib.hid hV
    generalize p1.length = n1 at *
    clear k hV r1
    go_enter Try.func20, Try.ntmps20
    go_wp2_with fail
    refine (HV.out _ (by (with_reducible repeat (first | assumption | exact Below.refl _ _ | refine Below.setCell ?_ (by first | omega | (simp; done) | (simp; omega)) _ | refine Below.drew ?_ | refine bdrewN ?_ _ | refine Below.alloc ?_ (by first | omega | (simp; done) | (simp; omega)) _)))).mono ?_; rintro e w2 ⟨rfl, hb_w2⟩
    have hB2 : Below w.heap.size w w2 := bon (by (with_reducible repeat (first | assumption | exact Below.refl _ _ | refine Below.setCell ?_ (by first | omega | (simp; done) | (simp; omega)) _ | refine Below.drew ?_ | refine bdrewN ?_ _ | refine Below.alloc ?_ (by first | omega | (simp; done) | (simp; omega)) _))) (by simp) hb_w2
    clear hb_w2
    go_wp2_with fail
    go_ret2
    exact ⟨_, rfl, hB2, World.ownsRow_nil _ _ _ _⟩
  | true =>
    rw [k] at hV
    obtain ⟨W, H, rfl, rfl, hW, hH, hlen⟩ := bufB_nat k
    have HV := Lib.hid hV
    have HR := Lib.hid r1
    have hlW : p1.length < 9223372036854775807 := by
      have := Nat.mul_le_mul hH.2 hW.2
      omega
    obtain ⟨n, hn⟩ : ∃ n, p1.length = n := ⟨_, rfl⟩
    have HN := Lib.hid hn
    have HL := Lib.hid hlen
    rw [hn] at hV ⊢
    rw [hn] at HV
    clear k hV r1 hn hlen
    unfold opqR
    simp only [Int.toNat_natCast, true_and, and_self, if_true]
    rw [cut5]
    have hRun := fun w2 (hb : Below w.heap.size w w2) b (K : Blk w2 b 27 #[.int .i64 W, .int .i64 H, .slice A1 n k1]) => bruns_opaque W H (.pointer (some ⟨b, 0, none⟩)) (opqM p1) w2 hW hH (fun i hi w0 hb0 => bopaque1_any b _ _ A1 p1 k1 i w0 (by rw [HN.out]; exact Blk.below hb0 K) (HR.out.below (bon hb hb.size hb0)) (by rw [HL.out]; exact hi) hl1)
    unfold RunsOk at hRun
    generalize (if 256 < (allR (opqM p1) W H).length then (5 : Int) else 0) = E at *
    generalize (if 256 < (allR (opqM p1) W H).length then [] else allR (opqM p1) W H) = LL at *
    have HRun := Lib.hid hRun
    clear hRun
    go_enter Try.func20, Try.ntmps20
    go_wp2_with fail
    refine (HV.out _ (by (with_reducible repeat (first | assumption | exact Below.refl _ _ | refine Below.setCell ?_ (by first | omega | (simp; done) | (simp; omega)) _ | refine Below.drew ?_ | refine bdrewN ?_ _ | refine Below.alloc ?_ (by first | omega | (simp; done) | (simp; omega)) _)))).mono ?_; rintro e w2 ⟨rfl, hb_w2⟩
    have hB2 : Below w.heap.size w w2 := bon (by (with_reducible repeat (first | assumption | exact Below.refl _ _ | refine Below.setCell ?_ (by first | omega | (simp; done) | (simp; omega)) _ | refine Below.drew ?_ | refine bdrewN ?_ _ | refine Below.alloc ?_ (by first | omega | (simp; done) | (simp; omega)) _))) (by simp) hb_w2
    have K1 : Blk w2 (w.heap.size) 27 #[.int .i64 W, .int .i64 H, .slice A1 n k1] := Blk.below hb_w2 (by (with_reducible repeat (first | assumption | (refine Blk.newAt ?_; first | rfl | (simp; done)) | refine Blk.alloc ?_ _ | refine Blk.drew ?_ | refine Blk.other ?_ (by simp) _)))
    obtain ⟨⟨c0, _⟩, ⟨c1, _⟩, c2, _⟩ := K1.c3
    have HK1 := Lib.hid K1
    have hz2 := hB2.size
    clear hb_w2 K1
    go_wp2_with fail
    refine (HRun.out w2 hB2 _ HK1.out).mono ?_; rintro e w3 ⟨v, rfl, hb3, ho3⟩
    have hB3 := bon hB2 hB2.size hb3
    have HO3 := Lib.hid ho3
    clear hb3 ho3
    go_wp2_with fail
    go_ret2
    exact ⟨v, rfl, hB3, ownsRow_mono HO3.out hz2⟩
set_option maxRecDepth 100000 in
set_option maxHeartbeats 4000000 in
theorem bdiff_any (w1 h1 : Int) (A1 : Option Addr) (p1 : List Px) (k1 : Nat) (w2 h2 : Int) (A2 : Option Addr) (p2 : List Px) (k2 : Nat) (w : World) (r1 : Rdp w A1 p1) (r2 : Rdp w A2 p2) (hl1 : p1.length ≤ 9223372036854775807) (hl2 : p2.length ≤ 9223372036854775807) :
    Calls Try.prog 17 #[bufv w1 h1 (.slice A1 p1.length k1), bufv w2 h2 (.slice A2 p2.length k2)] w (RectsOk w (diffE w1 h1 p1 w2 h2 p2) (diffL w1 h1 p1 w2 h2 p2)) := by
  have hV1 := fun W (hb : Below w.heap.size w W) => bvalid_any w1 h1 A1 p1 k1 W (r1.below hb) hl1
  have hV2 := fun W (hb : Below w.heap.size w W) => bvalid_any w2 h2 A2 p2 k2 W (r2.below hb) hl2
  cases e1 : bufB w1 h1 p1 with
  | false =>
    obtain ⟨q1, q2⟩ := diff_bad (w1 := w1) (h1 := h1) (p1 := p1) (w2 := w2) (h2 := h2) (p2 := p2) (by rw [e1]; simp)
    rw [q1, q2]
    clear q1 q2
    rw [e1] at hV1
    have HV1 := Lib.hid hV1
    generalize p1.length = n1 at *
    generalize p2.length = n2 at *
    clear e1 hV1 hV2 r1 r2
    go_enter Try.func17, Try.ntmps17
    go_wp2_with fail
    refine (HV1.out _ (by (with_reducible repeat (first | assumption | exact Below.refl _ _ | refine Below.setCell ?_ (by first | omega | (simp; done) | (simp; omega)) _ | refine Below.drew ?_ | refine bdrewN ?_ _ | refine Below.alloc ?_ (by first | omega | (simp; done) | (simp; omega)) _)))).mono ?_; rintro e wx ⟨rfl, hb_wx⟩
    have hB2 : Below w.heap.size w wx := bon (by (with_reducible repeat (first | assumption | exact Below.refl _ _ | refine Below.setCell ?_ (by first | omega | (simp; done) | (simp; omega)) _ | refine Below.drew ?_ | refine bdrewN ?_ _ | refine Below.alloc ?_ (by first | omega | (simp; done) | (simp; omega)) _))) (by simp; try omega) hb_wx
    clear hb_wx
    go_wp2_with fail
    go_ret2
    exact ⟨_, rfl, hB2, World.ownsRow_nil _ _ _ _⟩
  | true =>
    rw [e1] at hV1
    have HV1 := Lib.hid hV1
    cases e2 : bufB w2 h2 p2 with
    | false =>
      obtain ⟨q1, q2⟩ := diff_bad (w1 := w1) (h1 := h1) (p1 := p1) (w2 := w2) (h2 := h2) (p2 := p2) (by rw [e2]; simp)
      rw [q1, q2]
      clear q1 q2
      rw [e2] at hV2
      have HV2 := Lib.hid hV2
      generalize p1.length = n1 at *
      generalize p2.length = n2 at *
      clear e1 e2 hV1 hV2 r1 r2
      go_enter Try.func17, Try.ntmps17
      go_wp2_with fail
      refine (HV1.out _ (by (with_reducible repeat (first | assumption | exact Below.refl _ _ | refine Below.setCell ?_ (by first | omega | (simp; done) | (simp; omega)) _ | refine Below.drew ?_ | refine bdrewN ?_ _ | refine Below.alloc ?_ (by first | omega | (simp; done) | (simp; omega)) _)))).mono ?_; rintro e wx ⟨rfl, hb_wx⟩
      have hB2 : Below w.heap.size w wx := bon (by (with_reducible repeat (first | assumption | exact Below.refl _ _ | refine Below.setCell ?_ (by first | omega | (simp; done) | (simp; omega)) _ | refine Below.drew ?_ | refine bdrewN ?_ _ | refine Below.alloc ?_ (by first | omega | (simp; done) | (simp; omega)) _))) (by simp; try omega) hb_wx
      have K3 : Blk wx (w.heap.size + 1) 27 #[.int .i64 w2, .int .i64 h2, .slice A2 n2 k2] := Blk.below hb_wx (by (with_reducible repeat (first | assumption | (refine Blk.newAt ?_; first | rfl | (simp; done)) | refine Blk.alloc ?_ _ | refine Blk.drew ?_ | refine Blk.other ?_ (by simp) _)))
      obtain ⟨⟨d0, _⟩, ⟨d1, _⟩, d2, _⟩ := K3.c3
      clear hb_wx K3
      go_wp2_with fail
      refine (HV2.out _ (by (with_reducible repeat (first | assumption | exact Below.refl _ _ | refine Below.setCell ?_ (by first | omega | (simp; done) | (simp; omega)) _ | refine Below.drew ?_ | refine bdrewN ?_ _ | refine Below.alloc ?_ (by first | omega | (simp; done) | (simp; omega)) _)))).mono ?_; rintro e wy ⟨rfl, hb_wy⟩
      have hB3 : Below w.heap.size w wy := bon hB2 hB2.size hb_wy
      clear hb_wy
      go_wp2_with fail
      go_ret2
      exact ⟨_, rfl, hB3, World.ownsRow_nil _ _ _ _⟩
    | true =>
      rw [e2] at hV2
      have HV2 := Lib.hid hV2
      by_cases hs : w1 = w2 ∧ h1 = h2
      · obtain ⟨q1, q2⟩ := diff_run (p1 := p1) (p2 := p2) ⟨e1, e2⟩ hs
        rw [q1, q2]
        clear q1 q2
        obtain ⟨rfl, rfl⟩ := hs
        obtain ⟨W, H, rfl, rfl, hW, hH, hlen⟩ := bufB_nat e1
        obtain ⟨W', H', hw', hh', _, _, hlen2⟩ := bufB_nat e2
        obtain rfl : W = W' := by omega
        obtain rfl : H = H' := by omega
        have HR1 := Lib.hid r1
        have HR2 := Lib.hid r2
        obtain ⟨n1, hn1⟩ : ∃ n, p1.length = n := ⟨_, rfl⟩
        obtain ⟨n2, hn2⟩ : ∃ n, p2.length = n := ⟨_, rfl⟩
        have HN1 := Lib.hid hn1
        have HN2 := Lib.hid hn2
        have HL1 := Lib.hid hlen
        have HL2 := Lib.hid hlen2
        rw [hn1] at HV1 ⊢
        rw [hn2] at HV2 ⊢
        unfold diffR
        simp only [Int.toNat_natCast]
        have hRun := fun w2 (hb : Below w.heap.size w w2) b b' (K : Blk w2 b 27 #[.int .i64 W, .int .i64 H, .slice A1 n1 k1]) (K' : Blk w2 b' 27 #[.int .i64 W, .int .i64 H, .slice A2 n2 k2]) => bruns_diff W H (.pointer (some ⟨b, 0, none⟩)) (.pointer (some ⟨b', 0, none⟩)) (diffM p1 p2) w2 hW hH (fun i hi w0 hb0 => bdiff1_any b b' _ _ _ _ A1 A2 p1 p2 k1 k2 i w0 (by rw [HN1.out]; exact Blk.below hb0 K) (by rw [HN2.out]; exact Blk.below hb0 K') (HR1.out.below (bon hb hb.size hb0)) (HR2.out.below (bon hb hb.size hb0)) (by rw [HL1.out]; exact hi) (by rw [HL2.out]; exact hi) hl1 hl2)
        unfold RunsOk at hRun
        generalize (if 256 < (allR (diffM p1 p2) W H).length then (5 : Int) else 0) = E at *
        generalize (if 256 < (allR (diffM p1 p2) W H).length then [] else allR (diffM p1 p2) W H) = LL at *
        have HRun := Lib.hid hRun
        clear hRun hlen hlen2 hn1 hn2 e1 e2 hV1 hV2 r1 r2 hw' hh'
        go_enter Try.func17, Try.ntmps17
        go_wp2_with fail
        refine (HV1.out _ (by (with_reducible repeat (first | assumption | exact Below.refl _ _ | refine Below.setCell ?_ (by first | omega | (simp; done) | (simp; omega)) _ | refine Below.drew ?_ | refine bdrewN ?_ _ | refine Below.alloc ?_ (by first | omega | (simp; done) | (simp; omega)) _)))).mono ?_; rintro e wx ⟨rfl, hb_wx⟩
        have hB2 : Below w.heap.size w wx := bon (by (with_reducible repeat (first | assumption | exact Below.refl _ _ | refine Below.setCell ?_ (by first | omega | (simp; done) | (simp; omega)) _ | refine Below.drew ?_ | refine bdrewN ?_ _ | refine Below.alloc ?_ (by first | omega | (simp; done) | (simp; omega)) _))) (by simp; try omega) hb_wx
        have K2 : Blk wx (w.heap.size) 27 #[.int .i64 W, .int .i64 H, .slice A1 n1 k1] := Blk.below hb_wx (by (with_reducible repeat (first | assumption | (refine Blk.newAt ?_; first | rfl | (simp; done)) | refine Blk.alloc ?_ _ | refine Blk.drew ?_ | refine Blk.other ?_ (by simp) _)))
        have K3 : Blk wx (w.heap.size + 1) 27 #[.int .i64 W, .int .i64 H, .slice A2 n2 k2] := Blk.below hb_wx (by (with_reducible repeat (first | assumption | (refine Blk.newAt ?_; first | rfl | (simp; done)) | refine Blk.alloc ?_ _ | refine Blk.drew ?_ | refine Blk.other ?_ (by simp) _)))
        obtain ⟨⟨d0, _⟩, ⟨d1, _⟩, d2, _⟩ := K3.c3
        have HK2 := Lib.hid K2
        have HK3 := Lib.hid K3
        clear hb_wx K2 K3
        go_wp2_with fail
        refine (HV2.out _ (by (with_reducible repeat (first | assumption | exact Below.refl _ _ | refine Below.setCell ?_ (by first | omega | (simp; done) | (simp; omega)) _ | refine Below.drew ?_ | refine bdrewN ?_ _ | refine Below.alloc ?_ (by first | omega | (simp; done) | (simp; omega)) _)))).mono ?_; rintro e wy ⟨rfl, hb_wy⟩
        have hB3 : Below w.heap.size w wy := bon hB2 hB2.size hb_wy
        obtain ⟨⟨c0, _⟩, ⟨c1, _⟩, c2, _⟩ := (Blk.below hb_wy HK2.out).c3
        obtain ⟨⟨d0, _⟩, ⟨d1, _⟩, d2, _⟩ := (Blk.below hb_wy HK3.out).c3
        have HK2 := Lib.hid (Blk.below hb_wy HK2.out)
        have HK3 := Lib.hid (Blk.below hb_wy HK3.out)
        have g0 := cell_regrown c0
        have g1 := cell_regrown c1
        have g2 := cell_regrown c2
        have g3 := cell_regrown d0
        have g4 := cell_regrown d1
        have g5 := cell_regrown d2
        clear hb_wy
        go_upto_region 3 with fail
        (refine wp_region_calm 4 [] [false, false, false, false] (by kernel_rfl) (by kernel_rfl) (by decide) (freshOk_of (by kernel_rfl) (by kernel_rfl) (fun x hx => by cases hx)) ?_; simp only [List.take_succ_cons, List.take_zero, List.drop_succ_cons, List.drop_zero, List.zip_cons_cons, List.zip_nil_left, List.zip_nil_right]; (repeat (first | refine wpCalm_pass ?_ | (refine wpCalm_step (fun K hK => ?_); go_simp; first | (refine hK _ ?_; clear hK K) | (apply Exists.intro; refine ⟨fun _ => ?_, hK _ ?_⟩; (exact bframe_any _ _ _ rfl _); clear hK K)))); (first | refine wpCalm_nil ?_ | skip))
        intro F wz hF
        obtain rfl := hF.nil
        have hbz := hF.below
        have hB4 : Below w.heap.size w wz := bon hB3 hB3.size hbz
        obtain ⟨⟨c0, _⟩, ⟨c1, _⟩, c2, _⟩ := (Blk.below hbz HK2.out).c3
        have HK2 := Lib.hid (Blk.below hbz HK2.out)
        have HK3 := Lib.hid (Blk.below hbz HK3.out)
        clear g0 g1 g2 g3 g4 g5 hF hbz hB2 hB3
        unfold putL
        go_wp2_with fail
        refine (HRun.out _ hB4 _ _ HK2.out HK3.out).mono ?_; rintro e w3 ⟨v, rfl, hb3, ho3⟩
        have hB5 := bon hB4 hB4.size hb3
        have HO3 := Lib.hid ho3
        have hz2 := hB4.size
        clear hb3 ho3
        go_wp2_with fail
        go_ret2
        exact ⟨v, rfl, hB5, ownsRow_mono HO3.out hz2⟩
      · obtain ⟨q1, q2⟩ := diff_size (p1 := p1) (p2 := p2) ⟨e1, e2⟩ hs
        rw [q1, q2]
        have hne : (w1 == w2) = false ∨ (w1 == w2) = true ∧ (h1 == h2) = false := by
          simp only [beq_eq_false_iff_ne, ne_eq, beq_iff_eq]
          omega
        generalize p1.length = n1 at *
        generalize p2.length = n2 at *
        clear q1 q2 hs e1 e2 hV1 hV2 r1 r2
        go_enter Try.func17, Try.ntmps17
        go_wp2_with fail
        refine (HV1.out _ (by (with_reducible repeat (first | assumption | exact Below.refl _ _ | refine Below.setCell ?_ (by first | omega | (simp; done) | (simp; omega)) _ | refine Below.drew ?_ | refine bdrewN ?_ _ | refine Below.alloc ?_ (by first | omega | (simp; done) | (simp; omega)) _)))).mono ?_; rintro e wx ⟨rfl, hb_wx⟩
        have hB2 : Below w.heap.size w wx := bon (by (with_reducible repeat (first | assumption | exact Below.refl _ _ | refine Below.setCell ?_ (by first | omega | (simp; done) | (simp; omega)) _ | refine Below.drew ?_ | refine bdrewN ?_ _ | refine Below.alloc ?_ (by first | omega | (simp; done) | (simp; omega)) _))) (by simp; try omega) hb_wx
        have K2 : Blk wx (w.heap.size) 27 #[.int .i64 w1, .int .i64 h1, .slice A1 n1 k1] := Blk.below hb_wx (by (with_reducible repeat (first | assumption | (refine Blk.newAt ?_; first | rfl | (simp; done)) | refine Blk.alloc ?_ _ | refine Blk.drew ?_ | refine Blk.other ?_ (by simp) _)))
        have K3 : Blk wx (w.heap.size + 1) 27 #[.int .i64 w2, .int .i64 h2, .slice A2 n2 k2] := Blk.below hb_wx (by (with_reducible repeat (first | assumption | (refine Blk.newAt ?_; first | rfl | (simp; done)) | refine Blk.alloc ?_ _ | refine Blk.drew ?_ | refine Blk.other ?_ (by simp) _)))
        obtain ⟨⟨d0, _⟩, ⟨d1, _⟩, d2, _⟩ := K3.c3
        have HK2 := Lib.hid K2
        have HK3 := Lib.hid K3
        clear hb_wx K2 K3
        go_wp2_with fail
        refine (HV2.out _ (by (with_reducible repeat (first | assumption | exact Below.refl _ _ | refine Below.setCell ?_ (by first | omega | (simp; done) | (simp; omega)) _ | refine Below.drew ?_ | refine bdrewN ?_ _ | refine Below.alloc ?_ (by first | omega | (simp; done) | (simp; omega)) _)))).mono ?_; rintro e wy ⟨rfl, hb_wy⟩
        have hB3 : Below w.heap.size w wy := bon hB2 hB2.size hb_wy
        obtain ⟨⟨c0, _⟩, ⟨c1, _⟩, c2, _⟩ := (Blk.below hb_wy HK2.out).c3
        obtain ⟨⟨d0, _⟩, ⟨d1, _⟩, d2, _⟩ := (Blk.below hb_wy HK3.out).c3
        have HK2 := Lib.hid (Blk.below hb_wy HK2.out)
        have HK3 := Lib.hid (Blk.below hb_wy HK3.out)
        have g0 := cell_regrown c0
        have g1 := cell_regrown c1
        have g2 := cell_regrown c2
        have g3 := cell_regrown d0
        have g4 := cell_regrown d1
        have g5 := cell_regrown d2
        clear hb_wy
        go_upto_region 3 with fail
        (refine wp_region_calm 4 [] [false, false, false, false] (by kernel_rfl) (by kernel_rfl) (by decide) (freshOk_of (by kernel_rfl) (by kernel_rfl) (fun x hx => by cases hx)) ?_; simp only [List.take_succ_cons, List.take_zero, List.drop_succ_cons, List.drop_zero, List.zip_cons_cons, List.zip_nil_left, List.zip_nil_right]; (repeat (first | refine wpCalm_pass ?_ | (refine wpCalm_step (fun K hK => ?_); go_simp; first | (refine hK _ ?_; clear hK K) | (apply Exists.intro; refine ⟨fun _ => ?_, hK _ ?_⟩; (exact bframe_any _ _ _ rfl _); clear hK K)))); (first | refine wpCalm_nil ?_ | skip))
        intro F wz hF
        obtain rfl := hF.nil
        have hbz := hF.below
        have hB4 : Below w.heap.size w wz := bon hB3 hB3.size hbz
        obtain ⟨⟨c0, _⟩, ⟨c1, _⟩, c2, _⟩ := (Blk.below hbz HK2.out).c3
        have HK2 := Lib.hid (Blk.below hbz HK2.out)
        have HK3 := Lib.hid (Blk.below hbz HK3.out)
        clear g0 g1 g2 g3 g4 g5 hF hbz hB2 hB3
        unfold putL
        rcases hne with e1 | ⟨e1, e2⟩
        all_goals
          go_wp2_with fail
          go_ret2
          exact ⟨_, rfl, hB4, World.ownsRow_nil _ _ _ _⟩
end Go.Proofs.Ytgikmcgoaihggaa
