/- BufferDiff: the walk. -/
import Derived.Test.YtgikmcgoaihggaaBEx
import Derived.Test.YtgikmcgoaihggaaBEq
import Derived.Test.YtgikmcgoaihggaaCropB
import Derived.Test.YtgikmcgoaihggaaCombB
import Derived.Test.YtgikmcgoaihggaaRunL
import Derived.Test.YtgikmcgoaihggaaLbClone
import Derived.Test.YtgikmcgoaihggaaVDiff
import Derived.Test.YtgikmcgoaihggaaOpenB
set_option linter.unusedVariables false
set_option linter.unusedSimpArgs false
namespace Go.Proofs.Ytgikmcgoaihggaa
open Go.RowKit Go.Sort
attribute [local go_sem ↓] Go.wp_at_zero Go.wp_at_succ
attribute [local go_sem] calm calmAt calmUpon

theorem bufE_atD {w : World} {B1 B2 : Int} {ps : List Px} {E : Int} {e : Ending} {w' : World} (h : BufE w (B1, B2, ps) E e w') : ∃ A c, e = .returned (.tuple #[bufv B1 B2 (.slice A ps.length c), .int .i64 E]) ∧ Below w.heap.size w w' ∧ OwnP w' w.heap.size (.slice A ps.length c) ps ∧ ps.length ≤ c ∧ c ≤ 9223372036854775807 := by
  obtain ⟨v, he, hb, ho⟩ := h
  obtain ⟨A, c, hv, h1, h2, hr⟩ := ho.form
  rw [hv] at he ho
  exact ⟨A, c, he, hb, ho, h1, h2⟩
theorem runs_at {w : World} {B : Nat} {A : Option Addr} {n c : Nat} {l : List Rc} (r : w.ownsRow B 47 4 (.slice A n c) n (rcCells l)) (hn : l.length = n) (h : 0 < n) :
    ∃ g, A = some ⟨g, 0, none⟩ ∧ g < w.heap.size ∧ ∀ j (hj : j < l.length), w.cell? ⟨g, j * 4, none⟩ = some (.int .i64 l[j].x0) ∧ w.cell? ⟨g, j * 4 + 1, none⟩ = some (.int .i64 l[j].y0) ∧ w.cell? ⟨g, j * 4 + 2, none⟩ = some (.int .i64 l[j].x1) ∧ w.cell? ⟨g, j * 4 + 3, none⟩ = some (.int .i64 l[j].y1) := by
  subst hn
  have hl : l ≠ [] := by intro e; subst e; simp at h
  obtain ⟨g, c', hv, _, _, _, hg, hcl, _⟩ := own_some r hl
  simp only [Value.slice.injEq] at hv
  obtain ⟨rfl, _, _⟩ := hv
  refine ⟨g, rfl, hg, fun j hj => ?_⟩
  obtain ⟨e0, e1, e2, e3⟩ := rcCells_get l j hj
  exact ⟨hcl _ _ e0, hcl _ _ e1, hcl _ _ e2, hcl _ _ e3⟩
theorem diff_zero {w1 h1 w2 h2 : Int} {a b : List Px} (h : diffE w1 h1 a w2 h2 b = 0) : bufB w1 h1 a = true ∧ bufB w2 h2 b = true ∧ w1 = w2 ∧ h1 = h2 ∧ diffL w1 h1 a w2 h2 b = allR (diffM a b) w1.toNat h1.toNat := by
  have hL : diffL w1 h1 a w2 h2 b = diffR w1 h1 a b := by unfold diffL; rw [if_pos h]
  unfold diffE at h
  by_cases k : bufB w1 h1 a = true ∧ bufB w2 h2 b = true
  · rw [if_pos k] at h
    by_cases k2 : w1 = w2 ∧ h1 = h2
    · exact ⟨k.1, k.2, k2.1, k2.2, hL⟩
    · rw [if_neg k2] at h; cases h
  · rw [if_neg k] at h; cases h
theorem stR_mem {a b : List Px} {W : Nat} {rs : List Rc} {p : Px} (hl : a.length = b.length) (h : p ∈ stR a b W rs) : p ∈ a ∨ p ∈ b := by
  unfold stR at h
  obtain ⟨q, hq, rfl⟩ := List.mem_map.1 h
  have hq' : q < a.length := List.mem_range.1 hq
  split
  · rw [getD_at (by omega)]; exact .inr (List.getElem_mem _)
  · rw [getD_at hq']; exact .inl (List.getElem_mem _)
theorem stR_valid {a b : List Px} {W H : Nat} {rs : List Rc} (ka : bufB W H a = true) (kb : bufB W H b = true) (hl : a.length = b.length) : bufB W H (stR a b W rs) = true := by
  obtain ⟨a1, a2, a3, a4⟩ := (bufB_iff _ _ _).1 ka
  obtain ⟨_, _, _, b4⟩ := (bufB_iff _ _ _).1 kb
  rw [bufB_iff]
  refine ⟨a1, a2, by rw [stR_length]; exact a3, List.all_eq_true.2 fun p hp => ?_⟩
  rcases stR_mem hl hp with h | h
  · exact List.all_eq_true.1 a4 _ h
  · exact List.all_eq_true.1 b4 _ h
/-- The buffer that grows into the second. -/
structure DfI (w4 : World) (W H : Nat) (ps : List Px) (n : Nat) (wr : World) (A : Option Addr) (c : Nat) : Prop where
  below : Below w4.heap.size w4 wr
  blk : Blk wr w4.heap.size 27 #[.int .i64 W, .int .i64 H, .slice A n c]
  own : OwnP wr 0 (.slice A n c) ps
  len : ps.length = n
theorem OwnP.rd {w : World} {B n c : Nat} {A : Option Addr} {ps : List Px} (h : OwnP w B (.slice A n c) ps) : n = ps.length ∧ n ≤ c ∧ c ≤ 9223372036854775807 ∧ Rdp w A ps := by
  obtain ⟨A', c', hv, h1, h2, hr⟩ := h.form
  simp only [Value.slice.injEq] at hv
  obtain ⟨rfl, rfl, rfl⟩ := hv
  exact ⟨rfl, h1, h2, hr⟩
set_option maxRecDepth 100000 in
set_option maxHeartbeats 8000000 in
theorem bufferdiff_any (w1 h1 : Int) (Aa : Option Addr) (a : List Px) (c1 : Nat) (w2 h2 : Int) (Ab : Option Addr) (b : List Px) (c2 : Nat) (w : World) (hl1 : a.length ≤ c1 ∧ c1 ≤ 9223372036854775807) (hl2 : b.length ≤ c2 ∧ c2 ≤ 9223372036854775807) (ra : Rdp w Aa a) (rb : Rdp w Ab b) (oka : PxsOk a) (okb : PxsOk b) (hn0 : a.length = 0 → Aa = none → c1 = 0) :
    Calls Try.prog 9 #[bufv w1 h1 (.slice Aa a.length c1), bufv w2 h2 (.slice Ab b.length c2)] w fun e w' => e = .returned (.bool true) ∧ Below w.heap.size w w' := by
  have hS1 := fun W => lbsmall_any w1 h1 Aa a.length c1 W (by omega)
  have hS2 := fun W => lbsmall_any w2 h2 Ab b.length c2 W (by omega)
  have hD1 := fun W (hb : Below w.heap.size w W) => bdiff_any w1 h1 Aa a c1 w2 h2 Ab b c2 W (ra.below hb) (rb.below hb) (by omega) (by omega)
  have hD2 := fun W (hb : Below w.heap.size w W) => vdiff_any w1 h1 Aa a c1 w2 h2 Ab b c2 W (ra.below hb) (rb.below hb) (by omega) (by omega)
  have hCl := fun W (hb : Below w.heap.size w W) (h : a.length ≤ 400000) => lbclone_any w1 h1 Aa a c1 W (ra.below hb) h hn0
  obtain ⟨n, hn⟩ : ∃ n, a.length = n := ⟨_, rfl⟩
  obtain ⟨nb, hnb⟩ : ∃ n, b.length = n := ⟨_, rfl⟩
  rw [hn] at hS1 hD1 hD2 hCl hl1 ⊢
  rw [hnb] at hS2 hD1 hD2 hl2 ⊢
  have HN := Lib.hid hn
  have HNB := Lib.hid hnb
  have HRA := Lib.hid ra
  have HRB := Lib.hid rb
  clear hn hnb ra rb hn0
  obtain ⟨hl3, hl4⟩ := hl1
  obtain ⟨hl5, hl6⟩ := hl2
  by_cases s1 : n ≤ 400
  · rw [decide_eq_true s1] at hS1
    have HS1 := Lib.hid hS1
    clear hS1
    by_cases s2 : nb ≤ 400
    · rw [decide_eq_true s2] at hS2
      have HS2 := Lib.hid hS2
      clear hS2
      by_cases hE : diffE w1 h1 a w2 h2 b = 0
      · obtain ⟨ka, kb, rfl, rfl, hL⟩ := diff_zero hE
        obtain ⟨W, H, rfl, rfl, hW, hH, hla⟩ := bufB_nat ka
        have hlb : b.length = H * W := by
          obtain ⟨_, _, hm⟩ := bufB_small kb
          have e : ((W * H : Nat) : Int) = (W : Int) * (H : Int) := by simp
          rw [Nat.mul_comm]; omega
        rw [Int.toNat_natCast, Int.toNat_natCast] at hL
        rw [hE, hL] at hD1
        obtain rfl : n = nb := by rw [← HN.out, ← HNB.out, hla, hlb]
        have hgood : ∀ r ∈ allR (diffM a b) W H, GoodR (diffM a b) W H r := fun r h => runs_good h
        have hall := stR_all (a := a) (b := b) hla hlb (show 0 < W by omega)
        have hHW := Nat.mul_le_mul hH.2 hW.2
        have hln : (allR (diffM a b) W H).length ≤ 65536 := by
          have := allR_length (diffM a b) W H
          omega
        obtain ⟨L, hLL⟩ : ∃ L, allR (diffM a b) W H = L := ⟨_, rfl⟩
        rw [hLL] at hD1 hgood hall hln
        obtain ⟨nl, hnl⟩ : ∃ nl, L.length = nl := ⟨_, rfl⟩
        unfold RectsOk OwnR at hD1
        rw [hnl] at hD1 hln
        have HD1 := Lib.hid hD1
        have HCl := Lib.hid (fun W0 hb => hCl W0 hb (by omega))
        have HGD := Lib.hid hgood
        have HALL := Lib.hid hall
        have HNL := Lib.hid hnl
        have HLA := Lib.hid hla
        have HLB := Lib.hid hlb
        have HKA := Lib.hid ka
        have HKB := Lib.hid kb
        clear hD1 hD2 hCl hgood hall hnl hla hlb ka kb hL hLL hE
        go_enter Try.func9, Try.ntmps9; go_wp2_with fail; refine (HS1.out _).mono ?_; rintro e wa ⟨rfl, hb_w1⟩; have hB_w1 : Below w.heap.size w wa := bon (by (with_reducible repeat (first | assumption | exact Below.refl _ _ | refine Below.setCell ?_ (by first | omega | (simp; done) | (simp; omega)) _ | refine Below.drew ?_ | refine bdrewN ?_ _ | refine Below.alloc ?_ (by first | omega | (simp; done) | (simp; omega)) _))) (by simp; try omega) hb_w1; have K2 : Blk wa w.heap.size 27 #[.int .i64 W, .int .i64 H, .slice Aa n c1] := Blk.below hb_w1 (by (with_reducible repeat (first | assumption | (refine Blk.newAt ?_; first | rfl | (simp; done)) | refine Blk.alloc ?_ _ | refine Blk.drew ?_ | refine Blk.other ?_ (by simp) _))); have K3 : Blk wa (w.heap.size + 1) 27 #[.int .i64 W, .int .i64 H, .slice Ab n c2] := Blk.below hb_w1 (by (with_reducible repeat (first | assumption | (refine Blk.newAt ?_; first | rfl | (simp; done)) | refine Blk.alloc ?_ _ | refine Blk.drew ?_ | refine Blk.other ?_ (by simp) _))); clear hb_w1
        obtain ⟨⟨p0, _⟩, ⟨p1, _⟩, p2, _⟩ := K2.c3; obtain ⟨⟨q0, _⟩, ⟨q1, _⟩, q2, _⟩ := K3.c3; have HK2 := Lib.hid K2; have HK3 := Lib.hid K3; clear K2 K3
        go_wp2_with fail
        refine (HS2.out _).mono ?_; rintro e w2' ⟨rfl, hb_w2'⟩
        have hB_w2' : Below w.heap.size w w2' := bon hB_w1 (hB_w1).size hb_w2'; have K2 := Blk.below hb_w2' HK2.out; have K3 := Blk.below hb_w2' HK3.out; clear HK2 HK3 p0 p1 p2 q0 q1 q2
        obtain ⟨⟨p0, _⟩, ⟨p1, _⟩, p2, _⟩ := K2.c3; obtain ⟨⟨q0, _⟩, ⟨q1, _⟩, q2, _⟩ := K3.c3; have HK2 := Lib.hid K2; have HK3 := Lib.hid K3; clear K2 K3
        go_wp2_with fail
        refine (HD1.out _ hB_w2').mono ?_; rintro e w3 ⟨v3, rfl, hb_w3, ho3⟩
        obtain ⟨A3, k3, hv3, hk3, hm3⟩ := slice_lenR ho3
        subst hv3
        have hB_w3 : Below w.heap.size w w3 := bon hB_w2' (hB_w2').size hb_w3; have K2 := Blk.below hb_w3 HK2.out; have K3 := Blk.below hb_w3 HK3.out; clear HK2 HK3 p0 p1 p2 q0 q1 q2
        obtain ⟨⟨p0, _⟩, ⟨p1, _⟩, p2, _⟩ := K2.c3; obtain ⟨⟨q0, _⟩, ⟨q1, _⟩, q2, _⟩ := K3.c3; have HK2 := Lib.hid K2; have HK3 := Lib.hid K3; clear K2 K3
        have HO3 := Lib.hid ho3
        clear ho3
        go_wp2_with fail
        refine (HCl.out _ hB_w3).mono ?_; rintro e w4 ⟨v4, rfl, hb_w4, ho4⟩
        obtain ⟨A4, k4, hv4, _, _⟩ := ho4.form
        rw [HN.out] at hv4
        subst hv4
        have HO4 := Lib.hid ho4
        have HOR := Lib.hid ((FrT.ofBelow hb_w4 0 []).row HO3.out (.inl rfl))
        have hB_w4 : Below w.heap.size w w4 := bon hB_w3 (hB_w3).size hb_w4; have K2 := Blk.below hb_w4 HK2.out; have K3 := Blk.below hb_w4 HK3.out; clear HK2 HK3 p0 p1 p2 q0 q1 q2
        have HK2 := Lib.hid K2
        have HK3 := Lib.hid K3
        have hzw4 := hB_w4.size
        clear ho4 K2 K3 HO3 hb_w3 hb_w2'
        go_wp2_with fail
        have hI0 : DfI w4 W H (stR a b W (L.take 0)) n (w4.alloc (.cells #[.int .i64 W, .int .i64 H, .slice A4 n k4] 27)) A4 k4 := ⟨(Below.refl _ _).alloc (Nat.le_refl _) _, Blk.new _ _ _, by rw [List.take_zero, stR_nil]; exact ownsRow_mono (HO4.out.alloc _) (Nat.zero_le _), by rw [stR_length]; exact HN.out⟩
        have HI0 := Lib.hid hI0
        clear hI0 HO4
        go_loopg [10] nl (fun k s10 wr => ∃ i A c, k = nl - i ∧ i ≤ nl ∧ s10 = .int .i64 (i : Nat) ∧ DfI w4 W H (stR a b W (L.take i)) n wr A c)
        case atStart => exact ⟨0, A4, k4, by omega, by omega, by first | rfl | simp, HI0.out⟩
        case round =>
          obtain ⟨i, A9, c9, hk, hi, rfl, hI⟩ := hrel
          have HI := Lib.hid hI
          have hbr := hI.below
          by_cases hlt : i < nl
          · obtain ⟨wo, rfl⟩ : ∃ wo : World, wo = wr := ⟨_, rfl⟩
            have hil : i < L.length := by rw [HNL.out]; exact hlt
            obtain ⟨X0, X1, Y, hr, hx, hx2, hy, hms⟩ := HGD.out L[i] (List.getElem_mem hil)
            have htk : L.take (i + 1) = L.take i ++ [L[i]] := List.take_succ_eq_append_getElem hil
            rw [hr] at htk
            have hst := stR_step (a := a) (b := b) (W := W) (H := H) (x0 := X0) (x1 := X1) (y := Y) (rs := L.take i) HLA.out HLB.out (by omega) ⟨hx, hx2⟩ hy
            rw [← htk] at hst
            obtain ⟨g, hA3, hg4, hcell⟩ := runs_at HOR.out HNL.out (by omega)
            obtain ⟨r0, r1, r2, r3⟩ := hcell i hil
            rw [hr] at r0 r1 r2 r3
            simp only at r0 r1 r2 r3
            replace r0 := (hbr.cell (p := ⟨g, i * 4, none⟩) hg4).trans r0
            replace r1 := (hbr.cell (p := ⟨g, i * 4 + 1, none⟩) hg4).trans r1
            replace r2 := (hbr.cell (p := ⟨g, i * 4 + 2, none⟩) hg4).trans r2
            replace r3 := (hbr.cell (p := ⟨g, i * 4 + 3, none⟩) hg4).trans r3
            have hCrop : ∀ W0, Below w.heap.size w W0 → Calls Try.prog 30 #[bufv W H (.slice Ab n c2), rcv ⟨X0, Y, X1, (Y : Int) + 1⟩] W0 (BufE W0 (((X1 - X0 : Nat) : Int), 1, cropUp b W X0 (X1 - X0) Y 1) 0) := by
              intro W0 hb
              have h := bcrop_any W H Ab b c2 ⟨X0, Y, X1, (Y : Int) + 1⟩ W0 (HRB.out.below hb) (by rw [HNB.out]; omega)
              obtain ⟨e1, e2⟩ := crop_ok (w := W) (h := H) (ps := b) (r := ⟨X0, Y, X1, (Y : Int) + 1⟩) HKB.out ⟨by rw [emB_iff]; simp only [crd]; omega, by simp only; omega, by simp only; omega, by simp only; omega, by simp only; omega⟩
              rw [e1, e2, HNB.out] at h
              simp only [Int.toNat_natCast] at h
              rw [show ((X1 : Int) - X0).toNat = X1 - X0 by omega, show ((Y : Int) + 1 - Y).toNat = 1 by omega, show (X1 : Int) - X0 = ((X1 - X0 : Nat) : Int) by omega, show (Y : Int) + 1 - Y = 1 by omega] at h
              exact h
            have hpb : bufB ((X1 - X0 : Nat) : Int) 1 (cropUp b W X0 (X1 - X0) Y 1) = true := by
              have := crop_valid (n := X1 - X0) (k := 1) (x0 := X0) (y0 := Y) HKB.out HLB.out hW.2 hH.2 (by omega) (by omega) (by omega) (by omega)
              exact this
            have hpo : PxsOk (cropUp b W X0 (X1 - X0) Y 1) := fun p hp => okb p (cropUp_mem hp)
            have hab : a.length = b.length := by rw [HLA.out, HLB.out]
            have hsb := stR_valid (rs := L.take i) HKA.out HKB.out hab
            have hso : PxsOk (stR a b W (L.take i)) := fun p hp => (stR_mem hab hp).elim (oka p) (okb p)
            have hPaste : ∀ W0 A13 k13, Rdp W0 A9 (stR a b W (L.take i)) → Rdp W0 A13 (cropUp b W X0 (X1 - X0) Y 1) → (cropUp b W X0 (X1 - X0) Y 1).length ≤ k13 ∧ k13 ≤ 9223372036854775807 →
                Calls Try.prog 32 #[bufv W H (.slice A9 n c9), bufv ((X1 - X0 : Nat) : Int) 1 (.slice A13 (cropUp b W X0 (X1 - X0) Y 1).length k13), .int .i64 X0, .int .i64 Y] W0 (BufE W0 (W, H, stR a b W (L.take (i + 1))) 0) := by
              intro W0 A13 k13 h1 h2 h3
              have h := bpaste_any W H A9 (stR a b W (L.take i)) c9 ((X1 - X0 : Nat) : Int) 1 A13 (cropUp b W X0 (X1 - X0) Y 1) k13 X0 Y W0 h1 h2 (by rw [HI.out.len]; omega) h3 hso hpo
              obtain ⟨e1, e2⟩ := put_ok (f := cpy) (X0 : Int) (Y : Int) ⟨hsb, hpb⟩
              rw [e1, e2, Int.toNat_natCast, hst, HI.out.len] at h
              exact h
            have hAt : ∀ W0, Below w.heap.size w W0 → ∀ (v : Value) (P : Px) (x : Int), (v = bufv W H (.slice Aa n c1) ∧ P = atP W H a x Y) ∨ (v = bufv W H (.slice Ab n c2) ∧ P = atP W H b x Y) →
                Calls Try.prog 28 #[v, .int .i64 x, .int .i64 Y] W0 fun e w' => e = .returned (px P.r P.g P.b P.a) ∧ Below W0.heap.size W0 w' := by
              rintro W0 hb v P x (⟨rfl, rfl⟩ | ⟨rfl, rfl⟩)
              · have h := vat_any W H x Y Aa a c1 W0 (HRA.out.below hb) (by rw [HN.out]; omega)
                rw [HN.out] at h; exact h
              · have h := vat_any W H x Y Ab b c2 W0 (HRB.out.below hb) (by rw [HNB.out]; omega)
                rw [HNB.out] at h; exact h
            have hlq : (cropUp b W X0 (X1 - X0) Y 1).length ≤ 9223372036854775807 := by
              rw [cropUp_length HLB.out (by omega) 1 (by omega)]; omega
            obtain ⟨part, hpart⟩ : ∃ p, cropUp b W X0 (X1 - X0) Y 1 = p := ⟨_, rfl⟩
            rw [hpart] at hCrop hPaste hlq
            have hBr : Below w.heap.size w wo := bon hB_w4 hzw4 hbr
            obtain ⟨⟨u0, _⟩, ⟨u1, _⟩, u2, _⟩ := hI.blk.c3
            obtain ⟨⟨p0, _⟩, ⟨p1, _⟩, p2, _⟩ := (Blk.below hbr HK2.out).c3
            obtain ⟨⟨q0, _⟩, ⟨q1, _⟩, q2, _⟩ := (Blk.below hbr HK3.out).c3
            have hz2 := (Blk.below hbr HK2.out).lt
            have hz3 := (Blk.below hbr HK3.out).lt
            have hz9 := hI.blk.lt
            have b1 : (0 : Int) ≤ (i : Int) := by omega
            have b2 : (i : Int) < (nl : Int) := by omega
            have b3 : (nl : Int) ≤ 65536 := by omega
            have HMS := Lib.hid hms
            have HCrop := Lib.hid hCrop
            have HPaste := Lib.hid hPaste
            have HAt := Lib.hid hAt
            have HBr := Lib.hid hBr
            have Hbr := Lib.hid hbr
            have n1 : decide ((X0 : Int) < 0) = false := by simp
            have n2 : decide ((Y : Int) < 0) = false := by simp
            have n3 : decide (W < X1) = false := by simp; omega
            have n4 : decide ((H : Int) < (Y : Int) + 1) = false := by simp; omega
            have n5 : ¬ W < X1 := by omega
            have n6 : ¬ (H : Int) < (Y : Int) + 1 := by omega
            have n7 : ¬ (X0 : Int) < 0 := by omega
            have n8 : ¬ (Y : Int) < 0 := by omega
            subst hA3
            clear hms hCrop hPaste hAt hBr hbr hI HI0 hr htk hst hcell hpb hpo hab hsb hso hpart hil
            go_wp2_with fail
            generalize hWd : World.alloc _ _ = w7
            have hb7 : Below wo.heap.size wo w7 := by subst hWd; (with_reducible repeat (first | assumption | exact Below.refl _ _ | refine Below.setCell ?_ (by first | omega | (simp; done) | (simp; omega)) _ | refine Below.drew ?_ | refine bdrewN ?_ _ | refine Below.alloc ?_ (by first | omega | (simp; done) | (simp; omega)) _))
            have K11 : Blk w7 wo.heap.size 47 #[.int .i64 X0, .int .i64 Y, .int .i64 X1, .int .i64 ((Y : Int) + 1)] := by subst hWd; (with_reducible repeat (first | assumption | (refine Blk.newAt ?_; first | rfl | (simp; done)) | refine Blk.alloc ?_ _ | refine Blk.drew ?_ | refine Blk.other ?_ (by simp) _))
            have HB7 := Lib.hid hb7
            have HK11 := Lib.hid K11
            clear hWd hb7 K11 r0 r1 r2 r3 u0 u1 u2 p0 p1 p2 q0 q1 q2
            go_loopg [12] (X1 - X0) (fun k s12 wq => ∃ x : Nat, k = X1 - x ∧ X0 ≤ x ∧ x ≤ X1 ∧ s12 = .int .i64 x ∧ Below w7.heap.size w7 wq)
            case atStart => exact ⟨X0, by omega, by omega, by omega, by first | rfl | simp, Below.refl _ _⟩
            case round =>
              obtain ⟨x, hk2, hx0, hx1, rfl, hbq⟩ := hrel
              have hbrq : Below wo.heap.size wo wr := bon HB7.out HB7.out.size hbq
              obtain ⟨⟨t0, _⟩, ⟨t1, _⟩, ⟨t2, _⟩, t3, _⟩ := (Blk.below hbq HK11.out).c4
              have K2 := Blk.below hbrq (Blk.below Hbr.out HK2.out)
              have K3 := Blk.below hbrq (Blk.below Hbr.out HK3.out)
              obtain ⟨⟨p0, _⟩, ⟨p1, _⟩, p2, _⟩ := K2.c3
              obtain ⟨⟨q0, _⟩, ⟨q1, _⟩, q2, _⟩ := K3.c3
              by_cases hlx : x < X1
              · have hms' := HMS.out x hx0 hlx
                have hqa : Y * W + x < a.length := by rw [HLA.out]; exact idx_lt2 (by omega) hy
                have hqb : Y * W + x < b.length := by rw [HLB.out]; exact idx_lt2 (by omega) hy
                have hAA : atP W H a x Y = a[Y * W + x] := atP_in2 hW hH (by omega) hy HLA.out hqa
                have hBB : atP W H b x Y = b[Y * W + x] := atP_in2 hW hH (by omega) hy HLB.out hqb
                have hne : a[Y * W + x] ≠ b[Y * W + x] := by
                  unfold diffM at hms'
                  have := of_decide_eq_true hms'
                  rw [getD_at hqa, getD_at hqb] at this
                  exact this
                have hAt2 : ∀ W0, Below w.heap.size w W0 → ∀ (v : Value) (P : Px), (v = bufv W H (.slice Aa n c1) ∧ P = a[Y * W + x]) ∨ (v = bufv W H (.slice Ab n c2) ∧ P = b[Y * W + x]) →
                    Calls Try.prog 28 #[v, .int .i64 x, .int .i64 Y] W0 fun e w' => e = .returned (px P.r P.g P.b P.a) ∧ Below W0.heap.size W0 w' := by
                  rintro W0 hb v P h
                  refine HAt.out W0 hb v P x ?_
                  rw [hAA, hBB]
                  exact h
                obtain ⟨PA, hPA⟩ : ∃ P, a[Y * W + x] = P := ⟨_, rfl⟩
                obtain ⟨PB, hPB⟩ : ∃ P, b[Y * W + x] = P := ⟨_, rfl⟩
                rw [hPA, hPB] at hne hAt2
                obtain ⟨A0, A1, A2, A3⟩ := PA
                obtain ⟨B0, B1, B2, B3⟩ := PB
                have hd := px_ne hne
                have hB0 : Below w.heap.size w wr := bon HBr.out HBr.out.size hbrq
                have g0 := cell_regrown t0
                have g1 := cell_regrown t1
                have g2 := cell_regrown p0
                have g3 := cell_regrown p1
                have g4 := cell_regrown p2
                have g5 := cell_regrown q0
                have g6 := cell_regrown q1
                have g7 := cell_regrown q2
                have HU := Lib.hid (fun d os => bon hB0 hB0.size (below_regrown wr d os))
                have HAt2 := Lib.hid hAt2
                have HBq := Lib.hid hbq
                clear hms' hqa hqb hAA hBB hne hAt2 hPA hPB hB0 hbq hbrq K2 K3
                go_wp2_with fail
                (refine wp_region_calm 10 [] [false, false, false, false, false, false, false, false, false, false] (by kernel_rfl) (by kernel_rfl) (by decide) (freshOk_of (by kernel_rfl) (by kernel_rfl) (fun x hx => by cases hx)) ?_; simp only [List.take_succ_cons, List.take_zero, List.drop_succ_cons, List.drop_zero, List.zip_cons_cons, List.zip_nil_left, List.zip_nil_right]; (repeat (first | refine wpCalm_pass ?_ | (refine wpCalm_step (fun K hK => ?_); go_simp; first | (refine hK _ ?_; clear hK K) | (apply Exists.intro; refine ⟨fun _ => ?_, hK _ ?_⟩; (go_at_call 28; exact HAt2.out _ (HU.out _ _) _ _ (by first | exact .inl ⟨rfl, rfl⟩ | exact .inr ⟨rfl, rfl⟩)); clear hK K)))); (first | refine wpCalm_nil ?_ | skip))
                intro F wz hF
                obtain rfl := hF.nil
                have hbz : Below w7.heap.size w7 wz := bon HBq.out HBq.out.size hF.below
                clear g0 g1 g2 g3 g4 g5 g6 g7 hF
                have HBz := Lib.hid hbz
                clear hbz
                unfold putL
                rcases hd with e1 | ⟨e1, e2 | ⟨e2, e3 | ⟨e3, e4⟩⟩⟩
                all_goals
                  go_wp2_with fail
                  go_roundg (X1 - (x + 1))
                  case measure => omega
                  case rel => exact ⟨x + 1, by omega, by omega, by omega, by first | rfl | simp, HBz.out⟩
              · obtain rfl : X1 = x := by omega
                have HBq := Lib.hid hbq
                have Hbrq := Lib.hid hbrq
                clear hbq hbrq K2
                have HK3' := Lib.hid K3
                clear K3
                go_wp2_with fail
                refine (HCrop.out _ (bon HBr.out HBr.out.size Hbrq.out)).mono ?_; intro e w8 h8; obtain ⟨A13, k13, rfl, hb8, ho13, hk13, hm13⟩ := bufE_atD h8
                have hbo8 : Below wo.heap.size wo w8 := bon Hbrq.out Hbrq.out.size hb8
                have K9 := Blk.below hbo8 HI.out.blk
                have K11 := Blk.below hb8 (Blk.below HBq.out HK11.out)
                obtain ⟨⟨t0, _⟩, ⟨t1, _⟩, ⟨t2, _⟩, t3, _⟩ := K11.c4
                obtain ⟨⟨u0, _⟩, ⟨u1, _⟩, u2, _⟩ := K9.c3
                have hz9 := K9.lt
                have hz11 := K11.lt
                have HK9 := Lib.hid K9
                have HO13 := Lib.hid ho13
                have HB8 := Lib.hid hbo8
                clear h8 hb8 ho13 K9 K11 hbo8 p0 p1 p2 q0 q1 q2
                go_wp2_with fail
                have hW8 : Below w8.heap.size w8 (w8.alloc (.cells #[.int .i64 ((X1 - X0 : Nat) : Int), .int .i64 1, .slice A13 part.length k13] 27)) := (Below.refl _ _).alloc (Nat.le_refl _) _
                refine (HPaste.out _ A13 k13 (HI.out.own.rd.2.2.2.below (bon HB8.out HB8.out.size hW8)) (HO13.out.rd.2.2.2.below hW8) ⟨hk13, hm13⟩).mono ?_; intro e w9 h9; obtain ⟨A15, k15, rfl, hb9, ho15, hk15, hm15⟩ := bufE_atD h9
                have hln15 : (stR a b W (L.take (i + 1))).length = n := by rw [stR_length]; exact HN.out
                rw [hln15] at ho15 hk15 ⊢
                have hb89 : Below w8.heap.size w8 w9 := bon hW8 hW8.size hb9
                have K9 := Blk.below hb89 HK9.out
                obtain ⟨⟨u0, v0⟩, ⟨u1, v1⟩, u2, v2⟩ := K9.c3
                have hz9' := K9.lt
                have HK9' := Lib.hid K9
                have HO15 := Lib.hid ho15
                have HB9 := Lib.hid (bon HB8.out HB8.out.size hb89)
                have HLN := Lib.hid hln15
                clear h9 hb9 ho15 K9 hb89 hW8 t0 t1 t2 t3 hln15
                go_wp2_with fail
                go_roundg (nl - (i + 1))
                case measure => omega
                case rel =>
                  obtain ⟨KE, FE⟩ := HK9'.out.set3 (.int .i64 W) (.int .i64 H) (.slice A15 n k15)
                  have hb49 : Below w4.heap.size w4 w9 := bon Hbr.out Hbr.out.size HB9.out
                  refine ⟨i + 1, A15, k15, by omega, by omega, by first | rfl | simp, ?_, ?_, ?_, HLN.out⟩
                  · (with_reducible repeat (first | assumption | exact Below.refl _ _ | refine Below.setCell ?_ (by first | omega | (simp; done) | (simp; omega)) _ | refine Below.drew ?_ | refine bdrewN ?_ _ | refine Below.alloc ?_ (by first | omega | (simp; done) | (simp; omega)) _))
                  · (with_reducible repeat (first | assumption | (refine Blk.newAt ?_; first | rfl | (simp; done)) | refine Blk.alloc ?_ _ | refine Blk.drew ?_ | refine Blk.other ?_ (by simp) _))
                  · have ho := HO15.out
                    unfold OwnP at ho ⊢
                    rw [HLN.out] at ho ⊢
                    first
                      | exact (ownsRow_mono (FE.row ho (.inl rfl)) (Nat.zero_le _)).alloc _
                      | exact ownsRow_mono (FE.row ho (.inl rfl)) (Nat.zero_le _)
          · obtain rfl : nl = i := by omega
            obtain ⟨⟨u0, _⟩, ⟨u1, _⟩, u2, _⟩ := hI.blk.c3
            obtain ⟨⟨q0, _⟩, ⟨q1, _⟩, q2, _⟩ := (Blk.below hbr HK3.out).c3
            clear hI HI0
            go_wp2_with fail
            have hBr : Below w.heap.size w wr := bon hB_w4 hzw4 hbr
            have hrd := HI.out.own.rd
            have hst : stR a b W (L.take nl) = b := by rw [← HNL.out, List.take_length]; exact HALL.out
            rw [hst] at hrd
            have hEq := vequal_any W H A9 b c9 W H Ab b c2 wr hrd.2.2.2 (HRB.out.below hBr) (by omega) (by omega)
            rw [eqB_self, ← hrd.1] at hEq
            refine hEq.mono ?_; rintro e wy ⟨rfl, hby⟩
            have hBy := bon hBr hBr.size hby
            clear hby hEq hrd hst
            go_wp2_with fail
            (refine (lbex_true _).mono ?_; rintro e wx ⟨rfl, hb_wx⟩; have hBx : Below w.heap.size w wx := bon hBy (by first | exact (hBy).size | (simp; omega)) hb_wx; clear hb_wx; go_wp2_with fail; go_ret; exact ⟨rfl, hBx⟩)
      · have hL : diffL w1 h1 a w2 h2 b = [] := by unfold diffL; rw [if_neg hE]
        rw [hL] at hD1 hD2
        obtain ⟨E, hEE⟩ : ∃ E, diffE w1 h1 a w2 h2 b = E := ⟨_, rfl⟩
        rw [hEE] at hE hD1 hD2
        have f2 : (E != 0) = true := by simpa using hE
        unfold RectsOk at hD1 hD2
        have HD1 := Lib.hid hD1
        have HD2 := Lib.hid hD2
        clear hD1 hD2 hCl hL hEE hE oka okb
        go_enter Try.func9, Try.ntmps9; go_wp2_with fail; refine (HS1.out _).mono ?_; rintro e wa ⟨rfl, hb_w1⟩; have hB_w1 : Below w.heap.size w wa := bon (by (with_reducible repeat (first | assumption | exact Below.refl _ _ | refine Below.setCell ?_ (by first | omega | (simp; done) | (simp; omega)) _ | refine Below.drew ?_ | refine bdrewN ?_ _ | refine Below.alloc ?_ (by first | omega | (simp; done) | (simp; omega)) _))) (by simp; try omega) hb_w1; have K2 : Blk wa w.heap.size 27 #[.int .i64 w1, .int .i64 h1, .slice Aa n c1] := Blk.below hb_w1 (by (with_reducible repeat (first | assumption | (refine Blk.newAt ?_; first | rfl | (simp; done)) | refine Blk.alloc ?_ _ | refine Blk.drew ?_ | refine Blk.other ?_ (by simp) _))); have K3 : Blk wa (w.heap.size + 1) 27 #[.int .i64 w2, .int .i64 h2, .slice Ab nb c2] := Blk.below hb_w1 (by (with_reducible repeat (first | assumption | (refine Blk.newAt ?_; first | rfl | (simp; done)) | refine Blk.alloc ?_ _ | refine Blk.drew ?_ | refine Blk.other ?_ (by simp) _))); clear hb_w1
        obtain ⟨⟨p0, _⟩, ⟨p1, _⟩, p2, _⟩ := K2.c3; obtain ⟨⟨q0, _⟩, ⟨q1, _⟩, q2, _⟩ := K3.c3; have HK2 := Lib.hid K2; have HK3 := Lib.hid K3; clear K2 K3
        go_wp2_with fail
        refine (HS2.out _).mono ?_; rintro e w2' ⟨rfl, hb_w2'⟩
        have hB_w2' : Below w.heap.size w w2' := bon hB_w1 (hB_w1).size hb_w2'; have K2 := Blk.below hb_w2' HK2.out; have K3 := Blk.below hb_w2' HK3.out; clear HK2 HK3 p0 p1 p2 q0 q1 q2
        obtain ⟨⟨p0, _⟩, ⟨p1, _⟩, p2, _⟩ := K2.c3; obtain ⟨⟨q0, _⟩, ⟨q1, _⟩, q2, _⟩ := K3.c3; have HK2 := Lib.hid K2; have HK3 := Lib.hid K3; clear K2 K3
        go_wp2_with fail
        refine (HD1.out _ hB_w2').mono ?_; rintro e w3 ⟨v3, rfl, hb_w3, ho3⟩
        obtain ⟨A3, k3, hv3, _, _⟩ := slice_lenR ho3
        subst hv3
        have hB_w3 : Below w.heap.size w w3 := bon hB_w2' (hB_w2').size hb_w3; have K2 := Blk.below hb_w3 HK2.out; have K3 := Blk.below hb_w3 HK3.out; clear HK2 HK3 p0 p1 p2 q0 q1 q2
        obtain ⟨⟨p0, _⟩, ⟨p1, _⟩, p2, _⟩ := K2.c3; obtain ⟨⟨q0, _⟩, ⟨q1, _⟩, q2, _⟩ := K3.c3; have HK2 := Lib.hid K2; have HK3 := Lib.hid K3; clear K2 K3
        clear ho3
        go_wp2_with fail
        refine (HD2.out _ hB_w3).mono ?_; rintro e w4 ⟨v4, rfl, hb_w4, ho4⟩
        obtain ⟨A4, k4, hv4, _, _⟩ := slice_lenR ho4
        subst hv4
        have hB_w4 : Below w.heap.size w w4 := bon hB_w3 (hB_w3).size hb_w4; have K2 := Blk.below hb_w4 HK2.out; have K3 := Blk.below hb_w4 HK3.out; clear HK2 HK3 p0 p1 p2 q0 q1 q2
        clear ho4 K2 K3
        simp only [List.length_nil]
        go_wp2_with fail
        (refine (lbex_true _).mono ?_; rintro e wx ⟨rfl, hb_wx⟩; have hBx : Below w.heap.size w wx := bon hB_w4 (by first | exact (hB_w4).size | (simp; omega)) hb_wx; clear hb_wx; go_wp2_with fail; go_ret; exact ⟨rfl, hBx⟩)
    · rw [decide_eq_false s2] at hS2
      have HS2 := Lib.hid hS2
      clear hS2 hD1 hD2 hCl oka okb
      go_enter Try.func9, Try.ntmps9; go_wp2_with fail; refine (HS1.out _).mono ?_; rintro e wa ⟨rfl, hb_w1⟩; have hB_w1 : Below w.heap.size w wa := bon (by (with_reducible repeat (first | assumption | exact Below.refl _ _ | refine Below.setCell ?_ (by first | omega | (simp; done) | (simp; omega)) _ | refine Below.drew ?_ | refine bdrewN ?_ _ | refine Below.alloc ?_ (by first | omega | (simp; done) | (simp; omega)) _))) (by simp; try omega) hb_w1; have K2 : Blk wa w.heap.size 27 #[.int .i64 w1, .int .i64 h1, .slice Aa n c1] := Blk.below hb_w1 (by (with_reducible repeat (first | assumption | (refine Blk.newAt ?_; first | rfl | (simp; done)) | refine Blk.alloc ?_ _ | refine Blk.drew ?_ | refine Blk.other ?_ (by simp) _))); have K3 : Blk wa (w.heap.size + 1) 27 #[.int .i64 w2, .int .i64 h2, .slice Ab nb c2] := Blk.below hb_w1 (by (with_reducible repeat (first | assumption | (refine Blk.newAt ?_; first | rfl | (simp; done)) | refine Blk.alloc ?_ _ | refine Blk.drew ?_ | refine Blk.other ?_ (by simp) _))); clear hb_w1
      obtain ⟨⟨p0, _⟩, ⟨p1, _⟩, p2, _⟩ := K2.c3; obtain ⟨⟨q0, _⟩, ⟨q1, _⟩, q2, _⟩ := K3.c3; have HK2 := Lib.hid K2; have HK3 := Lib.hid K3; clear K2 K3
      go_wp2_with fail
      refine (HS2.out _).mono ?_; rintro e w2' ⟨rfl, hb_w2'⟩
      have hB_w2' : Below w.heap.size w w2' := bon hB_w1 (hB_w1).size hb_w2'; have K2 := Blk.below hb_w2' HK2.out; have K3 := Blk.below hb_w2' HK3.out; clear HK2 HK3 p0 p1 p2 q0 q1 q2
      clear K2 K3
      go_wp2_with fail
      (refine (lbex_true _).mono ?_; rintro e wx ⟨rfl, hb_wx⟩; have hBx : Below w.heap.size w wx := bon hB_w2' (by first | exact (hB_w2').size | (simp; omega)) hb_wx; clear hb_wx; go_wp2_with fail; go_ret; exact ⟨rfl, hBx⟩)
  · rw [decide_eq_false s1] at hS1
    have HS1 := Lib.hid hS1
    clear hS1 hS2 hD1 hD2 hCl oka okb
    go_enter Try.func9, Try.ntmps9; go_wp2_with fail; refine (HS1.out _).mono ?_; rintro e wa ⟨rfl, hb_w1⟩; have hB_w1 : Below w.heap.size w wa := bon (by (with_reducible repeat (first | assumption | exact Below.refl _ _ | refine Below.setCell ?_ (by first | omega | (simp; done) | (simp; omega)) _ | refine Below.drew ?_ | refine bdrewN ?_ _ | refine Below.alloc ?_ (by first | omega | (simp; done) | (simp; omega)) _))) (by simp; try omega) hb_w1; have K2 : Blk wa w.heap.size 27 #[.int .i64 w1, .int .i64 h1, .slice Aa n c1] := Blk.below hb_w1 (by (with_reducible repeat (first | assumption | (refine Blk.newAt ?_; first | rfl | (simp; done)) | refine Blk.alloc ?_ _ | refine Blk.drew ?_ | refine Blk.other ?_ (by simp) _))); have K3 : Blk wa (w.heap.size + 1) 27 #[.int .i64 w2, .int .i64 h2, .slice Ab nb c2] := Blk.below hb_w1 (by (with_reducible repeat (first | assumption | (refine Blk.newAt ?_; first | rfl | (simp; done)) | refine Blk.alloc ?_ _ | refine Blk.drew ?_ | refine Blk.other ?_ (by simp) _))); clear hb_w1
    clear K2 K3
    go_wp2_with fail
    (refine (lbex_true _).mono ?_; rintro e wx ⟨rfl, hb_wx⟩; have hBx : Below w.heap.size w wx := bon hB_w1 (by first | exact (hB_w1).size | (simp; omega)) hb_wx; clear hb_wx; go_wp2_with fail; go_ret; exact ⟨rfl, hBx⟩)
end Go.Proofs.Ytgikmcgoaihggaa
