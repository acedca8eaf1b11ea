/- Encode, of the program and of the reference. -/
import Derived.Test.YtgikmcgoaihggaaBRun
import Derived.Test.YtgikmcgoaihggaaDecA
set_option linter.unusedVariables false
set_option linter.unusedSimpArgs false
namespace Go.Proofs.Ytgikmcgoaihggaa
open Go.RowKit Go.Sort
attribute [local go_sem ↓] Go.wp_at_zero Go.wp_at_succ

/-- The bytes of pixels. -/
def encP (p : Px) : List Int := [p.b, p.g, p.r, p.a]
def encL (ps : List Px) : List Int := ps.flatMap encP
theorem encL_length (ps : List Px) : (encL ps).length = ps.length * 4 := by
  unfold encL
  induction ps with
  | nil => rfl
  | cons x l ih => simp only [List.flatMap_cons, List.length_append, ih, List.length_cons, encP, List.length_nil]; omega
theorem encL_take {ps : List Px} {j : Nat} (h : j < ps.length) : encL (ps.take (j + 1)) = encL (ps.take j) ++ encP ps[j] := by
  unfold encL
  rw [List.take_add_one, List.getElem?_eq_getElem h, List.flatMap_append]
  simp
theorem encL_get (ps : List Px) (i : Nat) (h : i < ps.length) : (encL ps).getD (4 * i) 0 = ps[i].b ∧ (encL ps).getD (4 * i + 1) 0 = ps[i].g ∧ (encL ps).getD (4 * i + 2) 0 = ps[i].r ∧ (encL ps).getD (4 * i + 3) 0 = ps[i].a := by
  unfold encL
  induction ps generalizing i with
  | nil => simp at h
  | cons x l ih =>
    cases i with
    | zero => simp [encP]
    | succ i =>
      have := ih i (by simpa using h)
      have e0 : 4 * (i + 1) = 4 * i + 1 + 1 + 1 + 1 := by omega
      simp only [List.getD_eq_getElem?_getD, List.flatMap_cons, encP, e0, List.cons_append, List.getElem?_cons_succ, List.nil_append, List.getElem_cons_succ] at this ⊢
      exact this
abbrev OwnU (w : World) (base : Nat) (v : Value) (zs : List Int) : Prop := w.ownsRow base 5 1 v zs.length (zs.map (Value.int .u8))
theorem OwnU.form {w : World} {base : Nat} {v : Value} {zs : List Int} (h : OwnU w base v zs) : ∃ A c, v = .slice A zs.length c ∧ zs.length ≤ c ∧ c ≤ 9223372036854775807 ∧ Rd w .u8 A zs := by
  rcases h.2 with ⟨rfl, h0⟩ | ⟨g, cap, cur, rfl, hbg, hg, h1, h2, _⟩
  · have h0' : zs.length = 0 := h0
    exact ⟨none, 0, by rw [h0'], by omega, by omega, fun j hj => by omega⟩
  · refine ⟨_, cap, rfl, h1, by simp only [maxLen] at h2; omega, fun j hj => ⟨g, 0, rfl, (Array.getElem?_eq_some_iff.1 hg).1, ?_⟩⟩
    rw [Nat.zero_add, h.cellAt j (by omega)]
    simp [hj]
theorem el_u8 : El Try.prog 23 5 1 1 := El.of (z := .int .u8 0) Try.underlying23 (by kernel_rfl) rfl (by decide)
def encB (w h : Int) (ps : List Px) : List Int := if bufB w h ps = true then encL ps else []
def EncOk (w : World) (zs : List Int) (e : Ending) (w' : World) : Prop := ∃ v, e = .returned v ∧ Below w.heap.size w w' ∧ OwnU w' w.heap.size v zs
set_option maxRecDepth 100000 in
set_option maxHeartbeats 2000000 in
theorem bencode_any (bw bh : Int) (A : Option Addr) (ps : List Px) (c : Nat) (w : World) (hr : Rdp w A ps) (hl : ps.length ≤ 9223372036854775807) :
    Calls Try.prog 23 #[bufv bw bh (.slice A ps.length c)] w (EncOk w (encB bw bh ps)) := by
  have hV := fun W (hb : Below w.heap.size w W) => bvalid_any bw bh A ps c W (hr.below hb) hl
  unfold encB
  cases k : bufB bw bh ps with
  | false =>
    rw [k] at hV
    have HV := Lib.hid hV
    generalize ps.length = n at *
    simp only [Bool.false_eq_true, if_false]
    clear k hV hr
    go_enter Try.func23, Try.ntmps23
    go_wp2_with fail
    refine (HV.out _ (by (with_reducible repeat (first | assumption | exact Below.refl _ _ | refine Below.setCell ?_ (by first | omega | (simp; done) | (simp; omega)) _ | refine Below.drew ?_ | refine bdrewN ?_ _ | refine Below.alloc ?_ (by first | omega | (simp; done) | (simp; omega)) _)))).mono ?_; rintro e w2 ⟨rfl, hb_w2⟩
    have hB2 : Below w.heap.size w w2 := bon (by (with_reducible repeat (first | assumption | exact Below.refl _ _ | refine Below.setCell ?_ (by first | omega | (simp; done) | (simp; omega)) _ | refine Below.drew ?_ | refine bdrewN ?_ _ | refine Below.alloc ?_ (by first | omega | (simp; done) | (simp; omega)) _))) (by simp) hb_w2
    clear hb_w2
    go_wp2_with fail
    go_ret
    exact ⟨_, rfl, hB2, World.ownsRow_nil _ _ _ _⟩
  | true =>
    rw [k] at hV
    have HV := Lib.hid hV
    obtain ⟨hsw, hsh, hsz⟩ := bufB_small k
    have hmx := size_mul hsw hsh
    obtain ⟨n, hn⟩ : ∃ n, ps.length = n := ⟨_, rfl⟩
    have hn6 : n ≤ 65536 := by omega
    rw [hn] at HV ⊢
    have HN := Lib.hid hn
    have HR := Lib.hid hr
    rw [if_pos rfl]
    clear k hV hr hn hsw hsh hsz hmx
    go_enter Try.func23, Try.ntmps23
    go_wp2_with fail
    refine (HV.out _ (by (with_reducible repeat (first | assumption | exact Below.refl _ _ | refine Below.setCell ?_ (by first | omega | (simp; done) | (simp; omega)) _ | refine Below.drew ?_ | refine bdrewN ?_ _ | refine Below.alloc ?_ (by first | omega | (simp; done) | (simp; omega)) _)))).mono ?_; rintro e w2 ⟨rfl, hb_w2⟩
    have hB2 : Below w.heap.size w w2 := bon (by (with_reducible repeat (first | assumption | exact Below.refl _ _ | refine Below.setCell ?_ (by first | omega | (simp; done) | (simp; omega)) _ | refine Below.drew ?_ | refine bdrewN ?_ _ | refine Below.alloc ?_ (by first | omega | (simp; done) | (simp; omega)) _))) (by simp) hb_w2
    have K1 : Blk w2 (w.heap.size) 27 #[.int .i64 bw, .int .i64 bh, .slice A n c] := Blk.below hb_w2 (by (with_reducible repeat (first | assumption | (refine Blk.newAt ?_; first | rfl | (simp; done)) | refine Blk.alloc ?_ _ | refine Blk.drew ?_ | refine Blk.other ?_ (by simp) _)))
    obtain ⟨⟨u0, _⟩, ⟨u1, _⟩, u2, _⟩ := K1.c3
    have HK1 := Lib.hid K1
    have HB2 := Lib.hid hB2
    clear hb_w2 K1 hB2
    go_wp2_with fail
    go_loopg [3, 12] n (fun k s3 s12 wr => ∃ j : Nat, k = n - j ∧ j ≤ n ∧ s12 = .int .i64 j ∧ Below w2.heap.size w2 wr ∧ OwnU wr w2.heap.size s3 (encL (ps.take j)))
    case atStart => exact ⟨0, by omega, by omega, by first | rfl | simp, Below.refl _ _, World.ownsRow_nil _ _ _ _⟩
    case round =>
      obtain ⟨j, hk, hj, rfl, hBz, hO⟩ := hrel
      have hB : Below w.heap.size w wr := bon HB2.out HB2.out.size hBz
      replace u0 := (Blk.below hBz HK1.out).c3.1.1
      replace u1 := (Blk.below hBz HK1.out).c3.2.1.1
      replace u2 := (Blk.below hBz HK1.out).c3.2.2.1
      have hzz := hBz.size
      by_cases hlt : j < n
      · obtain ⟨b1, o1, hA1, hbl1, c0, c1, c2, c3⟩ := HR.out j (by rw [HN.out]; omega)
        replace c0 := (hB.cell (p := ⟨b1, o1 + j * 4, none⟩) hbl1).trans c0
        replace c1 := (hB.cell (p := ⟨b1, o1 + j * 4 + 1, none⟩) hbl1).trans c1
        replace c2 := (hB.cell (p := ⟨b1, o1 + j * 4 + 2, none⟩) hbl1).trans c2
        replace c3 := (hB.cell (p := ⟨b1, o1 + j * 4 + 3, none⟩) hbl1).trans c3
        have htk := encL_take (ps := ps) (j := j) (by rw [HN.out]; omega)
        obtain ⟨X, hX⟩ : ∃ X, ps[j]'(by rw [HN.out]; omega) = X := ⟨_, rfl⟩
        rw [hX] at c0 c1 c2 c3 htk
        obtain ⟨xr, xg, xb, xa⟩ := X
        simp only at c0 c1 c2 c3
        have hml : (encL (ps.take j)).length = j * 4 := by rw [encL_length, List.length_take, HN.out]; omega
        have ho1 := hO
        unfold OwnU at ho1
        rw [hml] at ho1
        obtain ⟨oa, oc, hoe, _, _⟩ := slice_lenR ho1
        subst hoe
        have HO := Lib.hid ho1
        have HTK := Lib.hid htk
        have HML := Lib.hid hml
        subst hA1
        clear hX htk hml ho1 hO
        go_wp2_with (at_builtin; refine wpList_app _ [5] rfl el_u8 (.tmp 16) (.tmp 25) rfl w2.heap.size (.slice oa (j * 4) oc) (j * 4) ((encL (ps.take j)).map (Value.int .u8)) rfl ((HO.out.alloc _).alloc _) (.slice (some ⟨wr.heap.size + 1, 0, none⟩) 4 4) 4 [.int .u8 xb, .int .u8 xg, .int .u8 xr, .int .u8 xa] rfl (Src.blk (cs := #[.int .u8 xb, .int .u8 xg, .int .u8 xr, .int .u8 xa]) (Blk.newAt (by simp)) rfl (by simp [Value.oneCell']) 4) (by omega) (by decide) (by simp; omega) rfl ?_; intro v4 w4 hr4 hf4; have HR4 := Lib.hid hr4; have HF4 := Lib.hid hf4; clear hr4 hf4)
        go_roundg (n - (j + 1))
        case measure => omega
        case rel =>
          refine ⟨j + 1, by omega, by omega, by first | rfl | simp, hBz.trans ((((Below.refl _ _).alloc hzz _).alloc (by simp; omega) _).trans (HF4.out.toBelow (by simp; omega))), ?_⟩
          show World.ownsRow _ _ _ _ _ (encL (ps.take (j + 1))).length _
          rw [HTK.out, List.length_append, HML.out, List.map_append]
          exact HR4.out
      · obtain rfl : n = j := by omega
        rw [List.take_of_length_le (by rw [HN.out]; omega)] at hO
        have HO := Lib.hid (ownsRow_mono hO HB2.out.size)
        clear hO
        go_wp2_with fail
        go_ret
        exact ⟨_, rfl, hB, HO.out⟩
set_option maxRecDepth 100000 in
set_option maxHeartbeats 2000000 in
theorem vencode_any (bw bh : Int) (A : Option Addr) (ps : List Px) (c : Nat) (w : World) (hr : Rdp w A ps) (hl : ps.length ≤ 9223372036854775807) :
    Calls Try.prog 24 #[bufv bw bh (.slice A ps.length c)] w (EncOk w (encB bw bh ps)) := by
  have hV := fun W (hb : Below w.heap.size w W) => vvalid_any bw bh A ps c W (hr.below hb) hl
  unfold encB
  cases k : bufB bw bh ps with
  | false =>
    rw [k] at hV
    have HV := Lib.hid hV
    generalize ps.length = n at *
    simp only [Bool.false_eq_true, if_false]
    clear k hV hr
    go_enter Try.func24, Try.ntmps24
    go_wp2_with fail
    refine (HV.out _ (by (with_reducible repeat (first | assumption | exact Below.refl _ _ | refine Below.setCell ?_ (by first | omega | (simp; done) | (simp; omega)) _ | refine Below.drew ?_ | refine bdrewN ?_ _ | refine Below.alloc ?_ (by first | omega | (simp; done) | (simp; omega)) _)))).mono ?_; rintro e w2 ⟨rfl, hb_w2⟩
    have hB2 : Below w.heap.size w w2 := bon (by (with_reducible repeat (first | assumption | exact Below.refl _ _ | refine Below.setCell ?_ (by first | omega | (simp; done) | (simp; omega)) _ | refine Below.drew ?_ | refine bdrewN ?_ _ | refine Below.alloc ?_ (by first | omega | (simp; done) | (simp; omega)) _))) (by simp) hb_w2
    clear hb_w2
    go_wp2_with fail
    go_ret
    exact ⟨_, rfl, hB2, World.ownsRow_nil _ _ _ _⟩
  | true =>
    rw [k] at hV
    have HV := Lib.hid hV
    obtain ⟨hsw, hsh, hsz⟩ := bufB_small k
    have hmx := size_mul hsw hsh
    obtain ⟨n, hn⟩ : ∃ n, ps.length = n := ⟨_, rfl⟩
    have hn6 : n ≤ 65536 := by omega
    rw [hn] at HV ⊢
    have HN := Lib.hid hn
    have HR := Lib.hid hr
    rw [if_pos rfl]
    clear k hV hr hn hsw hsh hsz hmx
    go_enter Try.func24, Try.ntmps24
    go_wp2_with fail
    refine (HV.out _ (by (with_reducible repeat (first | assumption | exact Below.refl _ _ | refine Below.setCell ?_ (by first | omega | (simp; done) | (simp; omega)) _ | refine Below.drew ?_ | refine bdrewN ?_ _ | refine Below.alloc ?_ (by first | omega | (simp; done) | (simp; omega)) _)))).mono ?_; rintro e w2 ⟨rfl, hb_w2⟩
    have hB2 : Below w.heap.size w w2 := bon (by (with_reducible repeat (first | assumption | exact Below.refl _ _ | refine Below.setCell ?_ (by first | omega | (simp; done) | (simp; omega)) _ | refine Below.drew ?_ | refine bdrewN ?_ _ | refine Below.alloc ?_ (by first | omega | (simp; done) | (simp; omega)) _))) (by simp) hb_w2
    have K1 : Blk w2 (w.heap.size) 27 #[.int .i64 bw, .int .i64 bh, .slice A n c] := Blk.below hb_w2 (by (with_reducible repeat (first | assumption | (refine Blk.newAt ?_; first | rfl | (simp; done)) | refine Blk.alloc ?_ _ | refine Blk.drew ?_ | refine Blk.other ?_ (by simp) _)))
    obtain ⟨⟨u0, _⟩, ⟨u1, _⟩, u2, _⟩ := K1.c3
    have HK1 := Lib.hid K1
    have HB2 := Lib.hid hB2
    clear hb_w2 K1 hB2
    go_wp2_with fail
    go_loopg [3, 4] n (fun k s3 s4 wr => ∃ j : Nat, k = n - j ∧ j ≤ n ∧ s4 = .int .i64 j ∧ Below w2.heap.size w2 wr ∧ OwnU wr w2.heap.size s3 (encL (ps.take j)))
    case atStart => exact ⟨0, by omega, by omega, by first | rfl | simp, Below.refl _ _, World.ownsRow_nil _ _ _ _⟩
    case round =>
      obtain ⟨j, hk, hj, rfl, hBz, hO⟩ := hrel
      have hB : Below w.heap.size w wr := bon HB2.out HB2.out.size hBz
      replace u0 := (Blk.below hBz HK1.out).c3.1.1
      replace u1 := (Blk.below hBz HK1.out).c3.2.1.1
      replace u2 := (Blk.below hBz HK1.out).c3.2.2.1
      have hzz := hBz.size
      by_cases hlt : j < n
      · obtain ⟨b1, o1, hA1, hbl1, c0, c1, c2, c3⟩ := HR.out j (by rw [HN.out]; omega)
        replace c0 := (hB.cell (p := ⟨b1, o1 + j * 4, none⟩) hbl1).trans c0
        replace c1 := (hB.cell (p := ⟨b1, o1 + j * 4 + 1, none⟩) hbl1).trans c1
        replace c2 := (hB.cell (p := ⟨b1, o1 + j * 4 + 2, none⟩) hbl1).trans c2
        replace c3 := (hB.cell (p := ⟨b1, o1 + j * 4 + 3, none⟩) hbl1).trans c3
        have htk := encL_take (ps := ps) (j := j) (by rw [HN.out]; omega)
        obtain ⟨X, hX⟩ : ∃ X, ps[j]'(by rw [HN.out]; omega) = X := ⟨_, rfl⟩
        rw [hX] at c0 c1 c2 c3 htk
        obtain ⟨xr, xg, xb, xa⟩ := X
        simp only at c0 c1 c2 c3
        have hml : (encL (ps.take j)).length = j * 4 := by rw [encL_length, List.length_take, HN.out]; omega
        have ho1 := hO
        unfold OwnU at ho1
        rw [hml] at ho1
        obtain ⟨oa, oc, hoe, _, _⟩ := slice_lenR ho1
        subst hoe
        have HO := Lib.hid ho1
        have HTK := Lib.hid htk
        have HML := Lib.hid hml
        subst hA1
        clear hX htk hml ho1 hO
        go_wp2_with (at_builtin; refine wpList_app _ [5] rfl el_u8 (.tmp 22) (.tmp 31) rfl w2.heap.size (.slice oa (j * 4) oc) (j * 4) ((encL (ps.take j)).map (Value.int .u8)) rfl ((HO.out.alloc _).alloc _) (.slice (some ⟨wr.heap.size + 1, 0, none⟩) 4 4) 4 [.int .u8 xb, .int .u8 xg, .int .u8 xr, .int .u8 xa] rfl (Src.blk (cs := #[.int .u8 xb, .int .u8 xg, .int .u8 xr, .int .u8 xa]) (Blk.newAt (by simp)) rfl (by simp [Value.oneCell']) 4) (by omega) (by decide) (by simp; omega) rfl ?_; intro v4 w4 hr4 hf4; have HR4 := Lib.hid hr4; have HF4 := Lib.hid hf4; clear hr4 hf4)
        go_roundg (n - (j + 1))
        case measure => omega
        case rel =>
          refine ⟨j + 1, by omega, by omega, by first | rfl | simp, hBz.trans ((((Below.refl _ _).alloc hzz _).alloc (by simp; omega) _).trans (HF4.out.toBelow (by simp; omega))), ?_⟩
          show World.ownsRow _ _ _ _ _ (encL (ps.take (j + 1))).length _
          rw [HTK.out, List.length_append, HML.out, List.map_append]
          exact HR4.out
      · obtain rfl : n = j := by omega
        rw [List.take_of_length_le (by rw [HN.out]; omega)] at hO
        have HO := Lib.hid (ownsRow_mono hO HB2.out.size)
        clear hO
        go_wp2_with fail
        go_ret
        exact ⟨_, rfl, hB, HO.out⟩
/-- Decode finds the pixels again. -/
theorem clamp_valid {p : Px} (h : vldB p = true) : clampP p = p := by
  obtain ⟨h1, h2, h3⟩ := (vldB_iff p).1 h
  obtain ⟨r, g, b, a⟩ := p
  unfold clampP
  simp only at h1 h2 h3 ⊢
  rw [Int.min_eq_left h1, Int.min_eq_left h2, Int.min_eq_left h3]
theorem dec_enc {W H : Nat} {ps : List Px} (hW : 1 ≤ W ∧ W ≤ 256) (hH : 1 ≤ H ∧ H ≤ 256) (hl : ps.length = H * W) (hv : ps.all vldB = true) :
    decE 1 W H (4 * W) (encL ps).length = 0 ∧ decB 1 W H (4 * W) (encL ps) = ((W : Int), (H : Int), ps) := by
  have hn : (encL ps).length = (4 * W) * H := by rw [encL_length, hl, Nat.mul_comm H W, Nat.mul_comm (W * H) 4, Nat.mul_assoc]
  have hdiv : ((4 * W) * H) / H = 4 * W := Nat.mul_div_cancel _ (by omega)
  have e0 : decE 1 W H (4 * W) (encL ps).length = 0 := by
    unfold decE
    rw [if_neg (by omega), if_neg (by omega), if_neg (by omega), if_neg]
    rw [hn]
    have : (((4 * W) * H : Nat) : Int) / (H : Int) = ((4 * W : Nat) : Int) := by rw [← Int.natCast_ediv, hdiv]
    omega
  refine ⟨e0, ?_⟩
  unfold decB
  rw [if_pos e0]
  simp only [Prod.mk.injEq, true_and]
  have e1 : ((4 : Int) * (W : Int)).toNat = 4 * W := by omega
  rw [e1, Int.toNat_natCast, Int.toNat_natCast]
  have hrow : ∀ j, j ≤ H → decUp 1 (4 * W) W (encL ps) j 0 = ps.take (j * W) := by
    intro j
    induction j with
    | zero => intro _; simp [decUp, decRow]
    | succ j ih =>
      intro hj
      rw [decUp_row]
      have hin : ∀ i, i ≤ W → decUp 1 (4 * W) W (encL ps) j i = ps.take (j * W + i) := by
        intro i
        induction i with
        | zero => intro _; exact ih (by omega)
        | succ i ihi =>
          intro hi
          have hlt : j * W + i < ps.length := by
            have := Nat.mul_le_mul_right W (show j + 1 ≤ H by omega)
            rw [Nat.add_mul, Nat.one_mul] at this
            rw [hl]; omega
          rw [decUp_one, ihi (by omega), ← Nat.add_assoc, List.take_add_one, List.getElem?_eq_getElem hlt]
          have ek : j * (4 * W) + 4 * i = 4 * (j * W + i) := by rw [Nat.mul_add, Nat.mul_left_comm]
          obtain ⟨g0, g1, g2, g3⟩ := encL_get ps (j * W + i) hlt
          have ed : decP 1 (encL ps) (j * (4 * W) + 4 * i) = ps[j * W + i] := by
            unfold decP
            rw [ek, g0, g1, g2, if_neg (by decide), g3]
            exact clamp_valid (List.all_eq_true.1 hv _ (List.getElem_mem hlt))
          rw [ed]
          rfl
      rw [hin W (Nat.le_refl _), Nat.add_mul, Nat.one_mul]
  rw [hrow H (Nat.le_refl _), List.take_of_length_le (by omega)]
end Go.Proofs.Ytgikmcgoaihggaa
