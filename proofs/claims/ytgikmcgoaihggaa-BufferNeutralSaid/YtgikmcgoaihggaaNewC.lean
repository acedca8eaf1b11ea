/- New of both. -/
import Derived.Test.YtgikmcgoaihggaaRep
import Derived.Test.YtgikmcgoaihggaaBDec
set_option linter.unusedVariables false
set_option linter.unusedSimpArgs false
namespace Go.Proofs.Ytgikmcgoaihggaa
open Go.RowKit Go.Sort
attribute [local go_sem ↓] Go.wp_at_zero Go.wp_at_succ

def newE (w h : Int) (p : Px) : Int := if szB w = true ∧ szB h = true then (if vldB p = true then 0 else 15) else 6
def newB (w h : Int) (p : Px) : Int × Int × List Px := if newE w h p = 0 then (w, h, List.replicate (w * h).toNat p) else (0, 0, [])
theorem new_size {w h : Int} (p : Px) (k : ¬ (szB w = true ∧ szB h = true)) : newE w h p = 6 ∧ newB w h p = (0, 0, []) := by
  have e : newE w h p = 6 := by unfold newE; rw [if_neg k]
  exact ⟨e, by unfold newB; rw [e]; rfl⟩
theorem new_px {w h : Int} {p : Px} (k : szB w = true ∧ szB h = true) (k2 : vldB p = false) : newE w h p = 15 ∧ newB w h p = (0, 0, []) := by
  have e : newE w h p = 15 := by unfold newE; rw [if_pos k, k2]; rfl
  exact ⟨e, by unfold newB; rw [e]; rfl⟩
theorem new_ok {W H : Nat} {p : Px} (k : szB W = true ∧ szB H = true) (k2 : vldB p = true) : newE W H p = 0 ∧ newB W H p = ((W : Int), (H : Int), List.replicate (W * H) p) := by
  have e : newE W H p = 0 := by unfold newE; rw [if_pos k, if_pos k2]
  refine ⟨e, ?_⟩
  unfold newB
  rw [if_pos e]
  have : ((W : Int) * (H : Int)).toNat = W * H := by
    have e : ((W * H : Nat) : Int) = (W : Int) * (H : Int) := by simp
    omega
  rw [this]
theorem rdp_one {w : World} {i : Nat} {r g b a : Int} (h : Blk w i 43 #[.int .u8 r, .int .u8 g, .int .u8 b, .int .u8 a]) : Rdp w (some ⟨i, 0, none⟩) [⟨r, g, b, a⟩] := by
  intro j hj
  have hj0 : j = 0 := by simp at hj; omega
  subst hj0
  obtain ⟨⟨t0, _⟩, ⟨t1, _⟩, ⟨t2, _⟩, t3, _⟩ := h.c4
  exact ⟨i, 0, rfl, h.lt, t0, t1, t2, t3⟩
set_option maxRecDepth 100000 in
set_option maxHeartbeats 2000000 in
theorem bnew_any (bw bh : Int) (r g b a : Int) (w : World) : Calls Try.prog 37 #[.int .i64 bw, .int .i64 bh, px r g b a] w (BufE w (newB bw bh ⟨r, g, b, a⟩) (newE bw bh ⟨r, g, b, a⟩)) := by
  have hs1 := fun W => bsize_any bw W
  have hs2 := fun W => bsize_any bh W
  have hV := fun W => pxvalid_any r g b a W
  cases k1 : szB bw with
  | false =>
    obtain ⟨e1, e2⟩ := new_size (w := bw) (h := bh) ⟨r, g, b, a⟩ (by rw [k1]; simp)
    rw [e1, e2]
    rw [k1] at hs1
    have HS1 := Lib.hid hs1
    clear hs1 hs2 hV k1 e1 e2
    have K6 : Blk ((w.alloc (.cells #[.int .u8 r, .int .u8 g, .int .u8 b, .int .u8 a] 43)).alloc (.cells #[.int .i64 0, .int .i64 0, .slice none 0 0] 27)) (w.heap.size + 1) 27 #[.int .i64 0, .int .i64 0, .slice none 0 0] := by (with_reducible repeat (first | assumption | (refine Blk.newAt ?_; first | rfl | (simp; done)) | refine Blk.alloc ?_ _ | refine Blk.drew ?_ | refine Blk.other ?_ (by simp) _))
    go_enter Try.func37, Try.ntmps37
    go_wp2_with fail
    refine (HS1.out _).mono ?_; rintro e w' ⟨rfl, rfl⟩
    have HK6 := Lib.hid K6; clear K6; go_wp2_with fail; refine bodyPost_ret (results_ct rfl _ HK6.out rfl Try.underlying27 rfl (by kernel_rfl)) rfl ?_; exact ⟨_, rfl, by (with_reducible repeat (first | assumption | exact Below.refl _ _ | refine Below.setCell ?_ (by first | omega | (simp; done) | (simp; omega)) _ | refine Below.drew ?_ | refine bdrewN ?_ _ | refine Below.alloc ?_ (by first | omega | (simp; done) | (simp; omega)) _)), World.ownsRow_nil _ _ _ _⟩
  | true =>
    rw [k1] at hs1
    have HS1 := Lib.hid hs1
    cases k2 : szB bh with
    | false =>
      obtain ⟨e1, e2⟩ := new_size (w := bw) (h := bh) ⟨r, g, b, a⟩ (by rw [k2]; simp)
      rw [e1, e2]
      rw [k2] at hs2
      have HS2 := Lib.hid hs2
      clear hs1 hs2 hV k1 k2 e1 e2
      have K6 : Blk ((w.alloc (.cells #[.int .u8 r, .int .u8 g, .int .u8 b, .int .u8 a] 43)).alloc (.cells #[.int .i64 0, .int .i64 0, .slice none 0 0] 27)) (w.heap.size + 1) 27 #[.int .i64 0, .int .i64 0, .slice none 0 0] := by (with_reducible repeat (first | assumption | (refine Blk.newAt ?_; first | rfl | (simp; done)) | refine Blk.alloc ?_ _ | refine Blk.drew ?_ | refine Blk.other ?_ (by simp) _))
      go_enter Try.func37, Try.ntmps37
      go_wp2_with fail
      refine (HS1.out _).mono ?_; rintro e w' ⟨rfl, rfl⟩
      go_wp2_with fail
      refine (HS2.out _).mono ?_; rintro e w' ⟨rfl, rfl⟩
      have HK6 := Lib.hid K6; clear K6; go_wp2_with fail; refine bodyPost_ret (results_ct rfl _ HK6.out rfl Try.underlying27 rfl (by kernel_rfl)) rfl ?_; exact ⟨_, rfl, by (with_reducible repeat (first | assumption | exact Below.refl _ _ | refine Below.setCell ?_ (by first | omega | (simp; done) | (simp; omega)) _ | refine Below.drew ?_ | refine bdrewN ?_ _ | refine Below.alloc ?_ (by first | omega | (simp; done) | (simp; omega)) _)), World.ownsRow_nil _ _ _ _⟩
    | true =>
      rw [k2] at hs2
      have HS2 := Lib.hid hs2
      cases k3 : vldB ⟨r, g, b, a⟩ with
      | false =>
        obtain ⟨e1, e2⟩ := new_px (w := bw) (h := bh) ⟨k1, k2⟩ k3
        rw [e1, e2]
        rw [k3] at hV
        have HV := Lib.hid hV
        clear hs1 hs2 hV k1 k2 k3 e1 e2
        have K6 : Blk ((w.alloc (.cells #[.int .u8 r, .int .u8 g, .int .u8 b, .int .u8 a] 43)).alloc (.cells #[.int .i64 0, .int .i64 0, .slice none 0 0] 27)) (w.heap.size + 1) 27 #[.int .i64 0, .int .i64 0, .slice none 0 0] := by (with_reducible repeat (first | assumption | (refine Blk.newAt ?_; first | rfl | (simp; done)) | refine Blk.alloc ?_ _ | refine Blk.drew ?_ | refine Blk.other ?_ (by simp) _))
        go_enter Try.func37, Try.ntmps37
        go_wp2_with fail
        refine (HS1.out _).mono ?_; rintro e w' ⟨rfl, rfl⟩
        go_wp2_with fail
        refine (HS2.out _).mono ?_; rintro e w' ⟨rfl, rfl⟩
        go_wp2_with fail
        refine (HV.out _).mono ?_; rintro e w5 ⟨rfl, hb5⟩
        have hB5 : Below w.heap.size w w5 := bon (by (with_reducible repeat (first | assumption | exact Below.refl _ _ | refine Below.setCell ?_ (by first | omega | (simp; done) | (simp; omega)) _ | refine Below.drew ?_ | refine bdrewN ?_ _ | refine Below.alloc ?_ (by first | omega | (simp; done) | (simp; omega)) _))) (by simp; omega) hb5
        replace K6 := Blk.below hb5 K6
        have hz5 := hB5.size
        clear hb5
        have HK6 := Lib.hid K6; obtain ⟨⟨p0, q0⟩, ⟨p1, q1⟩, p2, q2⟩ := K6.c3; clear K6; go_wp2_with fail; obtain ⟨KE, FE⟩ := HK6.out.set3 (.int .i64 0) (.int .i64 0) (.slice none 0 0); refine bodyPost_ret (results_ct rfl _ KE rfl Try.underlying27 rfl (by kernel_rfl)) rfl ?_; exact ⟨_, rfl, by (with_reducible repeat (first | assumption | exact Below.refl _ _ | refine Below.setCell ?_ (by first | omega | (simp; done) | (simp; omega)) _ | refine Below.drew ?_ | refine bdrewN ?_ _ | refine Below.alloc ?_ (by first | omega | (simp; done) | (simp; omega)) _)), World.ownsRow_nil _ _ _ _⟩
      | true =>
        obtain ⟨w1, w2⟩ := (szB_iff bw).1 k1
        obtain ⟨h1, h2⟩ := (szB_iff bh).1 k2
        obtain ⟨W, rfl⟩ := Int.eq_ofNat_of_zero_le (show 0 ≤ bw by omega)
        obtain ⟨H, rfl⟩ := Int.eq_ofNat_of_zero_le (show 0 ≤ bh by omega)
        obtain ⟨e1, e2⟩ := new_ok (W := W) (H := H) ⟨k1, k2⟩ k3
        rw [e1, e2]
        rw [k3] at hV
        have HV := Lib.hid hV
        have hm1 := Nat.mul_le_mul (show W ≤ 256 by omega) (show H ≤ 256 by omega)
        have hm2 := Nat.mul_le_mul (show 1 ≤ W by omega) (show 1 ≤ H by omega)
        obtain ⟨m, hm⟩ : ∃ m, W * H = m := ⟨_, rfl⟩
        rw [hm] at hm1 hm2 ⊢
        have em : (W : Int) * (H : Int) = (m : Int) := by rw [← hm]; simp
        have hRp := fun W0 (b : Nat) (h : Blk W0 b 43 #[.int .u8 r, .int .u8 g, .int .u8 b, .int .u8 a]) => srepeat_any b 0 1 m ⟨r, g, b, a⟩ W0
        clear hs1 hs2 hV k1 k2 k3 e1 e2 hm
        have K6 : Blk ((w.alloc (.cells #[.int .u8 r, .int .u8 g, .int .u8 b, .int .u8 a] 43)).alloc (.cells #[.int .i64 0, .int .i64 0, .slice none 0 0] 27)) (w.heap.size + 1) 27 #[.int .i64 0, .int .i64 0, .slice none 0 0] := by (with_reducible repeat (first | assumption | (refine Blk.newAt ?_; first | rfl | (simp; done)) | refine Blk.alloc ?_ _ | refine Blk.drew ?_ | refine Blk.other ?_ (by simp) _))
        go_enter Try.func37, Try.ntmps37
        go_wp2_with fail
        refine (HS1.out _).mono ?_; rintro e w' ⟨rfl, rfl⟩
        go_wp2_with fail
        refine (HS2.out _).mono ?_; rintro e w' ⟨rfl, rfl⟩
        go_wp2_with fail
        refine (HV.out _).mono ?_; rintro e w5 ⟨rfl, hb5⟩
        have hB5 : Below w.heap.size w w5 := bon (by (with_reducible repeat (first | assumption | exact Below.refl _ _ | refine Below.setCell ?_ (by first | omega | (simp; done) | (simp; omega)) _ | refine Below.drew ?_ | refine bdrewN ?_ _ | refine Below.alloc ?_ (by first | omega | (simp; done) | (simp; omega)) _))) (by simp; omega) hb5
        replace K6 := Blk.below hb5 K6
        have K5 : Blk w5 w.heap.size 43 #[.int .u8 r, .int .u8 g, .int .u8 b, .int .u8 a] := Blk.below hb5 (by (with_reducible repeat (first | assumption | (refine Blk.newAt ?_; first | rfl | (simp; done)) | refine Blk.alloc ?_ _ | refine Blk.drew ?_ | refine Blk.other ?_ (by simp) _)))
        obtain ⟨⟨t0, _⟩, ⟨t1, _⟩, ⟨t2, _⟩, t3, _⟩ := K5.c4
        have hz6 := K6.lt
        have HK6 := Lib.hid K6
        clear hb5 K5 K6 hRp
        go_wp2_with fail
        have K7 : Blk (w5.alloc (.cells #[.int .u8 r, .int .u8 g, .int .u8 b, .int .u8 a] 43)) w5.heap.size 43 #[.int .u8 r, .int .u8 g, .int .u8 b, .int .u8 a] := Blk.new _ _ _
        have hW5 : Below w5.heap.size w5 (w5.alloc (.cells #[.int .u8 r, .int .u8 g, .int .u8 b, .int .u8 a] 43)) := (Below.refl _ _).alloc (Nat.le_refl _) _
        refine (srepeat_any w5.heap.size 0 1 m ⟨r, g, b, a⟩ _ (rdp_one K7) K7.lt ⟨hm2, hm1⟩).mono ?_; rintro e w8 ⟨v8, rfl, hb8, ho8⟩
        have hb58 : Below w5.heap.size w5 w8 := bon hW5 hW5.size hb8
        have hB8 : Below w.heap.size w w8 := bon hB5 hB5.size hb58
        have K6 := Blk.below hb58 HK6.out
        unfold OwnP at ho8
        rw [List.length_replicate] at ho8
        obtain ⟨A8, k8, hv8, _, _⟩ := slice_lenB ho8
        subst hv8
        have hz8 := K6.lt
        have hz58 := hb58.size
        obtain ⟨⟨p0, q0⟩, ⟨p1, q1⟩, p2, q2⟩ := K6.c3
        have HK6 := Lib.hid K6
        have HO8 := Lib.hid (ownsRow_mono ho8 (show w.heap.size ≤ _ by simp; omega))
        clear hb8 hb58 ho8 K6 K7 hW5 t0 t1 t2 t3
        go_wp2_with fail
        obtain ⟨KE, FE⟩ := HK6.out.set3 (.int .i64 W) (.int .i64 H) (.slice A8 m k8)
        refine bodyPost_ret (results_ct rfl _ KE rfl Try.underlying27 rfl (by kernel_rfl)) rfl ?_
        refine ⟨_, rfl, by (with_reducible repeat (first | assumption | exact Below.refl _ _ | refine Below.setCell ?_ (by first | omega | (simp; done) | (simp; omega)) _ | refine Below.drew ?_ | refine bdrewN ?_ _ | refine Below.alloc ?_ (by first | omega | (simp; done) | (simp; omega)) _)), ?_⟩
        show World.ownsRow _ _ _ _ _ (List.replicate m _).length _
        rw [List.length_replicate]
        exact FE.row HO8.out (.inl rfl)
/-- The buffer that New of the reference grows. -/
structure VnI (w : World) (W H : Nat) (r g b a : Int) (tb : Nat) (ps : List Px) (wr : World) (v : Value) : Prop where
  below : Below w.heap.size w wr
  kp : Blk wr w.heap.size 43 #[.int .u8 r, .int .u8 g, .int .u8 b, .int .u8 a]
  kr : Blk wr (w.heap.size + 1) 27 #[.int .i64 0, .int .i64 0, .slice none 0 0]
  kb : Blk wr tb 27 #[.int .i64 W, .int .i64 H, v]
  own : OwnP wr (tb + 1) v ps
  lt : w.heap.size + 1 < tb
theorem VnI.step {w wr w7 : World} {W H : Nat} {r g b a : Int} {tb : Nat} {l l' : List Px} {v v7 : Value} {n : Nat} {cs : List Value} (hI : VnI w W H r g b a tb l wr v) (o : Obj) (hf : FrT (tb + 1) [43] (wr.alloc o) w7)
    (ho : w7.ownsRow (tb + 1) 43 4 v7 n cs) (hn : n = l'.length) (hc : cs = pxCells l') : VnI w W H r g b a tb l' (w7.setCell ⟨tb, 2, none⟩ v7) v7 := by
  subst hn
  subst hc
  have ht := hI.lt
  have hz := hI.below.size
  have hkl := hI.kb.lt
  have B7 : ∀ {i : Nat} {e : TypeId} {cs : Array Value}, Blk wr i e cs → i < tb + 1 → Blk w7 i e cs := fun hb hi => hf.blk (hb.alloc o) (.inl hi)
  have K7 := B7 hI.kb (by omega)
  have f3 : FrT 0 [27] w7 (w7.setCell ⟨tb, 2, none⟩ v7) := (FrT.refl 0 [27] w7).set K7 rfl (Nat.zero_le _) _
  refine ⟨?_, (B7 hI.kp (by omega)).other (by simp; omega) _, (B7 hI.kr (by omega)).other (by simp; omega) _, K7.set 2 _, f3.row ho (.inl rfl), ht⟩
  exact ((hI.below.alloc (by omega) o).trans ((hf.toBelow (by simp; omega)).mono (by omega))).setCell (by simp; omega) _
set_option maxRecDepth 100000 in
set_option maxHeartbeats 2000000 in
theorem vnew_any (bw bh : Int) (r g b a : Int) (w : World) : Calls Try.prog 38 #[.int .i64 bw, .int .i64 bh, px r g b a] w (BufE w (newB bw bh ⟨r, g, b, a⟩) (newE bw bh ⟨r, g, b, a⟩)) := by
  have hs1 := fun W => vsize_any bw bh W
  have hV := fun W => r8valid_any r g b a W
  cases k : (szB bw && szB bh) with
  | false =>
    obtain ⟨e1, e2⟩ := new_size (w := bw) (h := bh) ⟨r, g, b, a⟩ (by intro ⟨h1, h2⟩; rw [h1, h2] at k; cases k)
    rw [e1, e2]
    rw [k] at hs1
    have HS1 := Lib.hid hs1
    clear hs1 hV k e1 e2
    have K6 : Blk ((w.alloc (.cells #[.int .u8 r, .int .u8 g, .int .u8 b, .int .u8 a] 43)).alloc (.cells #[.int .i64 0, .int .i64 0, .slice none 0 0] 27)) (w.heap.size + 1) 27 #[.int .i64 0, .int .i64 0, .slice none 0 0] := by (with_reducible repeat (first | assumption | (refine Blk.newAt ?_; first | rfl | (simp; done)) | refine Blk.alloc ?_ _ | refine Blk.drew ?_ | refine Blk.other ?_ (by simp) _))
    go_enter Try.func38, Try.ntmps38
    go_wp2_with fail
    refine (HS1.out _).mono ?_; rintro e w' ⟨rfl, rfl⟩
    have HK6 := Lib.hid K6; clear K6; go_wp2_with fail; refine bodyPost_ret (results_ct rfl _ HK6.out rfl Try.underlying27 rfl (by kernel_rfl)) rfl ?_; exact ⟨_, rfl, by (with_reducible repeat (first | assumption | exact Below.refl _ _ | refine Below.setCell ?_ (by first | omega | (simp; done) | (simp; omega)) _ | refine Below.drew ?_ | refine bdrewN ?_ _ | refine Below.alloc ?_ (by first | omega | (simp; done) | (simp; omega)) _)), World.ownsRow_nil _ _ _ _⟩
  | true =>
    rw [k] at hs1
    have HS1 := Lib.hid hs1
    obtain ⟨k1, k2⟩ := Bool.and_eq_true_iff.1 k
    cases k3 : vldB ⟨r, g, b, a⟩ with
    | false =>
      obtain ⟨e1, e2⟩ := new_px (w := bw) (h := bh) ⟨k1, k2⟩ k3
      rw [e1, e2]
      rw [k3] at hV
      have HV := Lib.hid hV
      clear hs1 hV k k1 k2 k3 e1 e2
      have K6 : Blk ((w.alloc (.cells #[.int .u8 r, .int .u8 g, .int .u8 b, .int .u8 a] 43)).alloc (.cells #[.int .i64 0, .int .i64 0, .slice none 0 0] 27)) (w.heap.size + 1) 27 #[.int .i64 0, .int .i64 0, .slice none 0 0] := by (with_reducible repeat (first | assumption | (refine Blk.newAt ?_; first | rfl | (simp; done)) | refine Blk.alloc ?_ _ | refine Blk.drew ?_ | refine Blk.other ?_ (by simp) _))
      go_enter Try.func38, Try.ntmps38
      go_wp2_with fail
      refine (HS1.out _).mono ?_; rintro e w' ⟨rfl, rfl⟩
      go_wp2_with fail
      refine (HV.out _).mono ?_; rintro e w5 ⟨rfl, hb5⟩
      have hB5 : Below w.heap.size w w5 := bon (by (with_reducible repeat (first | assumption | exact Below.refl _ _ | refine Below.setCell ?_ (by first | omega | (simp; done) | (simp; omega)) _ | refine Below.drew ?_ | refine bdrewN ?_ _ | refine Below.alloc ?_ (by first | omega | (simp; done) | (simp; omega)) _))) (by simp; omega) hb5
      replace K6 := Blk.below hb5 K6
      have hz5 := hB5.size
      clear hb5
      have HK6 := Lib.hid K6; obtain ⟨⟨p0, q0⟩, ⟨p1, q1⟩, p2, q2⟩ := K6.c3; clear K6; go_wp2_with fail; obtain ⟨KE, FE⟩ := HK6.out.set3 (.int .i64 0) (.int .i64 0) (.slice none 0 0); refine bodyPost_ret (results_ct rfl _ KE rfl Try.underlying27 rfl (by kernel_rfl)) rfl ?_; exact ⟨_, rfl, by (with_reducible repeat (first | assumption | exact Below.refl _ _ | refine Below.setCell ?_ (by first | omega | (simp; done) | (simp; omega)) _ | refine Below.drew ?_ | refine bdrewN ?_ _ | refine Below.alloc ?_ (by first | omega | (simp; done) | (simp; omega)) _)), World.ownsRow_nil _ _ _ _⟩
    | true =>
      obtain ⟨w1, w2⟩ := (szB_iff bw).1 k1
      obtain ⟨h1, h2⟩ := (szB_iff bh).1 k2
      obtain ⟨W, rfl⟩ := Int.eq_ofNat_of_zero_le (show 0 ≤ bw by omega)
      obtain ⟨H, rfl⟩ := Int.eq_ofNat_of_zero_le (show 0 ≤ bh by omega)
      obtain ⟨e1, e2⟩ := new_ok (W := W) (H := H) ⟨k1, k2⟩ k3
      rw [e1, e2]
      rw [k3] at hV
      have HV := Lib.hid hV
      have hm1 := Nat.mul_le_mul (show W ≤ 256 by omega) (show H ≤ 256 by omega)
      obtain ⟨m, hm⟩ : ∃ m, W * H = m := ⟨_, rfl⟩
      rw [hm] at hm1 ⊢
      have em : (W : Int) * (H : Int) = (m : Int) := by rw [← hm]; simp
      clear hs1 hV k k1 k2 k3 e1 e2 hm
      have K6 : Blk ((w.alloc (.cells #[.int .u8 r, .int .u8 g, .int .u8 b, .int .u8 a] 43)).alloc (.cells #[.int .i64 0, .int .i64 0, .slice none 0 0] 27)) (w.heap.size + 1) 27 #[.int .i64 0, .int .i64 0, .slice none 0 0] := by (with_reducible repeat (first | assumption | (refine Blk.newAt ?_; first | rfl | (simp; done)) | refine Blk.alloc ?_ _ | refine Blk.drew ?_ | refine Blk.other ?_ (by simp) _))
      go_enter Try.func38, Try.ntmps38
      go_wp2_with fail
      refine (HS1.out _).mono ?_; rintro e w' ⟨rfl, rfl⟩
      go_wp2_with fail
      refine (HV.out _).mono ?_; rintro e w5 ⟨rfl, hb5⟩
      have hB5 : Below w.heap.size w w5 := bon (by (with_reducible repeat (first | assumption | exact Below.refl _ _ | refine Below.setCell ?_ (by first | omega | (simp; done) | (simp; omega)) _ | refine Below.drew ?_ | refine bdrewN ?_ _ | refine Below.alloc ?_ (by first | omega | (simp; done) | (simp; omega)) _))) (by simp; omega) hb5
      replace K6 := Blk.below hb5 K6
      have K5 : Blk w5 w.heap.size 43 #[.int .u8 r, .int .u8 g, .int .u8 b, .int .u8 a] := Blk.below hb5 (by (with_reducible repeat (first | assumption | (refine Blk.newAt ?_; first | rfl | (simp; done)) | refine Blk.alloc ?_ _ | refine Blk.drew ?_ | refine Blk.other ?_ (by simp) _)))
      have hz6 := K6.lt
      have HK5 := Lib.hid K5
      have HK6 := Lib.hid K6
      clear hb5 K5 K6
      go_wp2_with fail
      have hI0 : VnI w W H r g b a w5.heap.size (List.replicate 0 ⟨r, g, b, a⟩) (w5.alloc (.cells #[.int .i64 W, .int .i64 H, .slice none 0 0] 27)) (.slice none 0 0) := ⟨hB5.alloc hB5.size _, HK5.out.alloc _, HK6.out.alloc _, Blk.new _ _ _, World.ownsRow_nil _ _ _ _, hz6⟩
      have HI0 := Lib.hid hI0
      obtain ⟨tb, htb⟩ : ∃ tb, w5.heap.size = tb := ⟨_, rfl⟩
      rw [htb] at HI0 hz6 ⊢
      clear hI0 HK5 HK6
      go_loopg [9] m (fun k s9 wr => ∃ i : Nat, ∃ v, k = m - i ∧ i ≤ m ∧ s9 = .int .i64 i ∧ VnI w W H r g b a tb (List.replicate i ⟨r, g, b, a⟩) wr v)
      case atStart => exact ⟨0, _, by omega, by omega, by first | rfl | simp, HI0.out⟩
      case round =>
        obtain ⟨i, v, hk, hi, rfl, hI⟩ := hrel
        have HI := Lib.hid hI
        obtain ⟨oa, oc, hoe, _, _⟩ := slice_lenB hI.own
        rw [List.length_replicate] at hoe
        subst hoe
        obtain ⟨⟨t0, _⟩, ⟨t1, _⟩, ⟨t2, _⟩, t3, _⟩ := hI.kp.c4
        obtain ⟨⟨p0, q0⟩, ⟨p1, q1⟩, p2, q2⟩ := hI.kb.c3
        have hkl := hI.kb.lt
        by_cases hlt : i < m
        · have ho' : wr.ownsRow (tb + 1) 43 4 (.slice oa i oc) i (pxCells (List.replicate i ⟨r, g, b, a⟩)) := by have := hI.own; unfold OwnP at this; rw [List.length_replicate] at this; exact this
          have HO := Lib.hid ho'
          have hA1 : i + 1 ≤ 1000000 := by omega
          have hz7 : tb + 1 ≤ wr.heap.size := hkl
          clear hI ho' HI0
          go_wp2_with (at_builtin; refine wpList_app _ [43] rfl el_px (.tmp 30) (.tmp 32) rfl (tb + 1) (.slice oa i oc) i (pxCells (List.replicate i ⟨r, g, b, a⟩)) rfl (HO.out.alloc _) (.slice (some ⟨wr.heap.size, 0, none⟩) 1 1) 1 (pxCell ⟨r, g, b, a⟩) rfl (Src.blk (cs := (pxCell ⟨r, g, b, a⟩).toArray) (Blk.newAt rfl) rfl (by simp [pxCell, Value.oneCell']) 1) hA1 (by decide) (by simp; omega) rfl ?_; intro v7 w7 hr7 hf7; have K7 := hf7.blk (HI.out.kb.alloc _) (.inr rfl); obtain ⟨⟨p0, q0⟩, ⟨p1, q1⟩, p2, q2⟩ := K7.c3; obtain ⟨a7, e7, hv7, _, _⟩ := slice_lenB hr7; subst hv7; have HIn := Lib.hid (HI.out.step _ hf7 hr7 (l' := List.replicate (i + 1) ⟨r, g, b, a⟩) (by rw [List.length_replicate]) (by rw [List.replicate_succ', pxCells_append]; rfl)); clear hr7 hf7 K7)
          go_roundg (m - (i + 1))
          case measure => omega
          case rel => exact ⟨i + 1, _, by omega, by omega, by first | rfl | simp, HIn.out⟩
        · obtain rfl : m = i := by omega
          obtain ⟨⟨r0, s0⟩, ⟨r1, s1⟩, r2, s2⟩ := hI.kr.c3
          have hrl := hI.kr.lt
          clear hI HI0
          go_wp2_with fail
          obtain ⟨KE, FE⟩ := HI.out.kr.set3 (.int .i64 W) (.int .i64 H) (.slice oa m oc)
          refine bodyPost_ret (results_ct rfl _ KE rfl Try.underlying27 rfl (by kernel_rfl)) rfl ?_
          have hbw := HI.out.below
          refine ⟨_, rfl, by (with_reducible repeat (first | assumption | exact Below.refl _ _ | refine Below.setCell ?_ (by first | omega | (simp; done) | (simp; omega)) _ | refine Below.drew ?_ | refine bdrewN ?_ _ | refine Below.alloc ?_ (by first | omega | (simp; done) | (simp; omega)) _)), ?_⟩
          exact ownsRow_mono (FE.row HI.out.own (.inl rfl)) (by omega)
end Go.Proofs.Ytgikmcgoaihggaa
