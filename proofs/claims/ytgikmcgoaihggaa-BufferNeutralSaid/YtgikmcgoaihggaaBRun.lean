/- The program's runs. -/
import Derived.Test.YtgikmcgoaihggaaBVal
import Derived.Test.YtgikmcgoaihggaaBRunP
import Derived.Deep.DeepCutAuto
set_option linter.unusedVariables false
set_option linter.unusedSimpArgs false
namespace Go.Proofs.Ytgikmcgoaihggaa
open Go.RowKit Go.Sort
attribute [local go_sem ↓] Go.wp_at_zero Go.wp_at_succ

theorem slice_lenR {w : World} {B : Nat} {e : TypeId} {size n : Nat} {v : Value} {xs : List Value} (h : w.ownsRow B e size v n xs) : ∃ ad c, v = .slice ad n c ∧ n ≤ c ∧ n ≤ 9223372036854775807 := by
  rcases h.2 with ⟨rfl, rfl⟩ | ⟨g, cap, cur, rfl, _, _, h1, h2, _⟩
  · exact ⟨_, _, rfl, Nat.le_refl _, by omega⟩
  · exact ⟨_, _, rfl, h1, by simp only [maxLen] at h2; omega⟩
/-- What runs hands back. -/
def RunsOk (w : World) (l : List Rc) (e : Ending) (w' : World) : Prop :=
  ∃ v, e = .returned (.tuple #[v, .int .i64 (if 256 < l.length then 5 else 0)]) ∧ Below w.heap.size w w' ∧ OwnR w' w.heap.size v (if 256 < l.length then [] else l)
def RunI (w : World) (l : List Rc) (v : Value) (wr : World) : Prop := Below w.heap.size w wr ∧ OwnR wr w.heap.size v l
set_option maxRecDepth 100000 in
set_option maxHeartbeats 4000000 in
theorem bruns_diff (W H : Nat) (c1 c2 : Value) (ms : Nat → Bool) (w : World) (hW : 1 ≤ W ∧ W ≤ 256) (hH : 1 ≤ H ∧ H ≤ 256)
    (hF : ∀ (i : Nat), i < H * W → ∀ w0, Below w.heap.size w w0 → Calls Try.prog 45 #[.int .i64 i, c1, c2] w0 fun e w' => e = .returned (.bool (ms i)) ∧ Below w0.heap.size w0 w') :
    Calls Try.prog 44 #[.int .i64 W, .int .i64 H, .func (Fn.func 45) #[] #[c1, c2]] w (RunsOk w (allR ms W H)) := by
  obtain ⟨hW1, hW2⟩ := hW
  obtain ⟨hH1, hH2⟩ := hH
  have HF := Lib.hid hF
  clear hF
  go_enter Try.func44, Try.ntmps44
  go_wp2_with fail
  go_loopg [8, 13] H (fun k s8 s13 wr => ∃ j : Nat, k = H - j ∧ j ≤ H ∧ s13 = .int .i64 j ∧ RunI w (allR ms W j) s8 wr)
  case atStart => exact ⟨0, by omega, by omega, by first | rfl | simp, Below.refl _ _, World.ownsRow_nil _ _ _ _⟩
  case round =>
    obtain ⟨j, hk, hj, rfl, hI⟩ := hrel
    have HI := Lib.hid hI
    clear hI
    by_cases hlt : j < H
    · go_wp2_with fail
      go_loopg [8, 10, 17] W (fun k s8 s10 s17 wr => ∃ i : Nat, k = W - i ∧ i ≤ W ∧ s17 = .int .i64 i ∧ s10 = .bool (opn ms W j i) ∧ RunI w (rowR ms W j (allR ms W j) i) s8 wr)
      case atStart => exact ⟨0, by omega, by omega, by first | rfl | simp, rfl, HI.out⟩
      case round =>
        obtain ⟨i, hk2, hi, rfl, rfl, hB, hO⟩ := hrel
        by_cases hlti : i < W
        · have hix := idx_lt hlt hlti
          have hC := HF.out _ hix
          obtain ⟨m, hm⟩ : ∃ m : Nat, j * W + i = m := ⟨_, rfl⟩
          rw [hm] at hC
          have em : (j : Int) * (W : Int) + (i : Int) = (m : Int) := by rw [← hm]; simp
          have hjw : 0 ≤ (j : Int) * (W : Int) ∧ (j : Int) * (W : Int) ≤ 65536 := by
            have h := Nat.mul_le_mul (show j ≤ 256 by omega) hW2
            have e : ((j * W : Nat) : Int) = (j : Int) * (W : Int) := by simp
            omega
          obtain ⟨l, hl⟩ : ∃ l, rowR ms W j (allR ms W j) i = l := ⟨_, rfl⟩
          have hlb : l.length ≤ 65536 := by
            have h1 := rowR_length ms W j (allR ms W j) i
            have h2 := allR_length ms W j
            rw [hl] at h1
            exact row_bound hW2 hH2 hlt hi (by omega)
          rw [hl] at hO
          have hsucc : rowR ms W j (allR ms W j) (i + 1) = rstep l i j (ms m) (opn ms W j i) := by rw [← hl, ← hm]; rfl
          have hopn := opn_succ ms W j i
          rw [hm] at hopn
          have hne := rowR_ne (l := allR ms W j) (ms := ms) (W := W) (j := j) (i := i)
          rw [hl] at hne
          obtain ⟨o, ho⟩ : ∃ o, opn ms W j i = o := ⟨_, rfl⟩
          rw [ho] at hsucc hne ⊢
          obtain ⟨mb, hmb⟩ : ∃ b, ms m = b := ⟨_, rfl⟩
          rw [hmb] at hsucc hopn hC
          have HC := Lib.hid hC
          have HS := Lib.hid hsucc
          have HOP := Lib.hid hopn
          have HNE := Lib.hid hne
          have HO := Lib.hid hO
          obtain ⟨oa, oc, hoe, _, _⟩ := slice_lenR hO
          subst hoe
          clear hm hC hl hsucc hopn hne ho hmb hO HI hix
          go_wp2_with fail
          refine (HC.out wr hB).mono ?_; rintro e w1 ⟨rfl, hb1⟩
          have HB1 := Lib.hid hb1
          have HO1 := Lib.hid ((FrT.ofBelow hb1 0 []).row HO.out (.inl rfl))
          have hzw : w.heap.size ≤ w1.heap.size := Nat.le_trans hB.size hb1.size
          clear hb1 em hjw
          cases mb with
          | false =>
            have hs : rowR ms W j (allR ms W j) (i + 1) = l := by rw [HS.out]; rfl
            have HSS := Lib.hid hs
            clear hs
            go_wp2_with fail
            go_roundg (W - (i + 1))
            case measure => omega
            case rel =>
              refine ⟨i + 1, by omega, by omega, by first | rfl | simp, by rw [HOP.out], bon hB hB.size HB1.out, ?_⟩
              rw [HSS.out]
              exact HO1.out
          | true =>
            cases o with
            | true =>
              have hne := HNE.out rfl
              obtain ⟨g, c, hv, hc1, hc2, hg1, hg2, hcl, hfz⟩ := own_some HO1.out hne
              simp only [Value.slice.injEq] at hv
              obtain ⟨rfl, _, rfl⟩ := hv
              have hlp : 0 < l.length := List.length_pos_iff.2 hne
              obtain ⟨q, hq⟩ : ∃ q, l.length = q + 1 := ⟨l.length - 1, by omega⟩
              obtain ⟨k0, k1, k2, k3⟩ := rcCells_get l q (by omega)
              obtain ⟨vx, x2⟩ : ∃ v, w1.cell? ⟨g, q * 4 + 2, none⟩ = some (.int .i64 v) := ⟨_, hcl _ _ k2⟩
              have f2 := hfz (q * 4 + 2)
              have hst := store_last HO1.out hne ((i : Int) + 1)
              rw [show l.length - 1 = q by omega] at hst
              have hs : rowR ms W j (allR ms W j) (i + 1) = setLast l ((i : Int) + 1) := by rw [HS.out]; rfl
              have HSS := Lib.hid hs
              have HST := Lib.hid hst
              have HQ := Lib.hid hq
              rw [hq] at hlb ⊢
              clear hs hst hcl hfz k0 k1 k2 k3 hne hlp hc1 hq
              go_wp2_with fail
              go_roundg (W - (i + 1))
              case measure => omega
              case rel =>
                refine ⟨i + 1, by omega, by omega, by first | rfl | simp, by rw [HOP.out], ?_⟩
                rw [HSS.out]
                have hq := HQ.out
                have h1 := HST.out.1
                rw [hq] at h1
                exact ⟨(bon hB hB.size HB1.out).trans (HST.out.2.toBelow hzw), h1⟩
            | false =>
              have hs : rowR ms W j (allR ms W j) (i + 1) = l ++ [⟨i, j, (i : Int) + 1, (j : Int) + 1⟩] := by rw [HS.out]; rfl
              have HSS := Lib.hid hs
              clear hs
              obtain ⟨n, hn⟩ : ∃ n, l.length = n := ⟨_, rfl⟩
              have ho1 : w1.ownsRow w.heap.size 47 4 (.slice oa n oc) n (rcCells l) := by have := HO1.out; unfold OwnR at this; rw [hn] at this; exact this
              have HO2 := Lib.hid ho1
              have HN := Lib.hid hn
              rw [hn] at hlb ⊢
              clear ho1 hn
              go_upto_region 13 with (at_builtin; refine wpList_app _ [47] rfl el_rect (.tmp 30) (.tmp 37) rfl w.heap.size (.slice oa n oc) n (rcCells l) rfl (HO2.out.alloc _) (.slice (some ⟨w1.heap.size, 0, none⟩) 1 1) 1 (rcCell ⟨i, j, i, (j : Int) + 1⟩) rfl (Src.blk (cs := (rcCell ⟨i, j, i, (j : Int) + 1⟩).toArray) (Blk.newAt rfl) rfl (by simp [rcCell, Value.oneCell']) 1) (by omega) (by decide) (by simp; omega) rfl ?_; intro v2 w2 hr2 hf2; have HR2 := Lib.hid hr2; have HF2 := Lib.hid hf2; clear hr2 hf2)
              have hq2 : OwnR w2 w.heap.size v2 (l ++ [⟨i, j, i, (j : Int) + 1⟩]) := by
                show World.ownsRow _ _ _ _ _ (l ++ [(⟨i, j, i, (j : Int) + 1⟩ : Rc)]).length _
                rw [rcCells_append, List.length_append, HN.out]
                exact HR2.out
              obtain ⟨g, c2, hv2, hc1, hc2, hg1, hg2, hcl, hfz⟩ := own_some hq2 (by simp)
              rw [List.length_append, HN.out] at hv2 hc1
              subst hv2
              obtain ⟨k0, k1, k2, k3⟩ := rcCells_get (l ++ [(⟨i, j, i, (j : Int) + 1⟩ : Rc)]) n (by rw [List.length_append, HN.out]; simp)
              obtain ⟨vx, x2⟩ : ∃ v, w2.cell? ⟨g, n * 4 + 2, none⟩ = some (.int .i64 v) := ⟨_, hcl _ _ k2⟩
              have f2 := hfz (n * 4 + 2)
              have hq3 : OwnR w2 w.heap.size (.slice (some ⟨g, 0, none⟩) (l ++ [(⟨i, j, i, (j : Int) + 1⟩ : Rc)]).length c2) (l ++ [⟨i, j, i, (j : Int) + 1⟩]) := by rw [List.length_append, HN.out]; exact hq2
              have hst := store_last hq3 (by simp) ((i : Int) + 1)
              rw [setLast_append, List.length_append, HN.out] at hst
              have HST := Lib.hid hst
              have hz2 := HF2.out.size
              simp at hz2
              simp only [List.length_cons, List.length_nil, Nat.zero_add] at hc1 ⊢
              clear hq2 hq3 hcl hfz k0 k1 k2 k3 hst
              go_wp2_with fail
              go_roundg (W - (i + 1))
              case measure => omega
              case rel =>
                refine ⟨i + 1, by omega, by omega, by first | rfl | simp, by rw [HOP.out], ?_⟩
                rw [HSS.out]
                have hx : Below w.heap.size w1 w2 := ((Below.refl _ _).alloc hzw _).trans (HF2.out.toBelow (by simp; omega))
                exact ⟨((bon hB hB.size HB1.out).trans hx).trans (HST.out.2.toBelow (by omega)), HST.out.1⟩
        · obtain rfl : W = i := by omega
          obtain ⟨oa, oc, hoe, _, _⟩ := slice_lenR hO
          have HO := Lib.hid hO
          clear hO HI
          go_wp2_with fail
          go_roundg (H - (j + 1))
          case measure => omega
          case rel => exact ⟨j + 1, by omega, by omega, by first | rfl | simp, hB, HO.out⟩
    · obtain rfl : H = j := by omega
      obtain ⟨hB, hO⟩ := HI.out
      have hlb := allR_length ms W H
      have hlb2 := Nat.mul_le_mul hH2 hW2
      obtain ⟨l, hl⟩ : ∃ l, allR ms W H = l := ⟨_, rfl⟩
      rw [hl] at hO hlb
      have HLL := Lib.hid hl
      obtain ⟨oa, oc, hoe, _, _⟩ := slice_lenR hO
      subst hoe
      have HO := Lib.hid hO
      clear hO hl HI
      by_cases hbig : 256 < l.length
      · go_wp2_with fail
        go_ret2
        refine ⟨.slice none 0 0, ?_, hB, ?_⟩
        · rw [HLL.out, if_pos hbig]; rfl
        · rw [HLL.out, if_pos hbig]; exact World.ownsRow_nil _ _ _ _
      · go_wp2_with fail
        go_ret2
        refine ⟨.slice oa l.length oc, ?_, hB, ?_⟩
        · rw [HLL.out, if_neg hbig]; rfl
        · rw [HLL.out, if_neg hbig]; exact HO.out
set_option maxRecDepth 100000 in
set_option maxHeartbeats 4000000 in
theorem bruns_opaque (W H : Nat) (c1 : Value) (ms : Nat → Bool) (w : World) (hW : 1 ≤ W ∧ W ≤ 256) (hH : 1 ≤ H ∧ H ≤ 256)
    (hF : ∀ (i : Nat), i < H * W → ∀ w0, Below w.heap.size w w0 → Calls Try.prog 47 #[.int .i64 i, c1] w0 fun e w' => e = .returned (.bool (ms i)) ∧ Below w0.heap.size w0 w') :
    Calls Try.prog 44 #[.int .i64 W, .int .i64 H, .func (Fn.func 47) #[] #[c1]] w (RunsOk w (allR ms W H)) := by
  obtain ⟨hW1, hW2⟩ := hW
  obtain ⟨hH1, hH2⟩ := hH
  have HF := Lib.hid hF
  clear hF
  go_enter Try.func44, Try.ntmps44
  go_wp2_with fail
  go_loopg [8, 13] H (fun k s8 s13 wr => ∃ j : Nat, k = H - j ∧ j ≤ H ∧ s13 = .int .i64 j ∧ RunI w (allR ms W j) s8 wr)
  case atStart => exact ⟨0, by omega, by omega, by first | rfl | simp, Below.refl _ _, World.ownsRow_nil _ _ _ _⟩
  case round =>
    obtain ⟨j, hk, hj, rfl, hI⟩ := hrel
    have HI := Lib.hid hI
    clear hI
    by_cases hlt : j < H
    · go_wp2_with fail
      go_loopg [8, 10, 17] W (fun k s8 s10 s17 wr => ∃ i : Nat, k = W - i ∧ i ≤ W ∧ s17 = .int .i64 i ∧ s10 = .bool (opn ms W j i) ∧ RunI w (rowR ms W j (allR ms W j) i) s8 wr)
      case atStart => exact ⟨0, by omega, by omega, by first | rfl | simp, rfl, HI.out⟩
      case round =>
        obtain ⟨i, hk2, hi, rfl, rfl, hB, hO⟩ := hrel
        by_cases hlti : i < W
        · have hix := idx_lt hlt hlti
          have hC := HF.out _ hix
          obtain ⟨m, hm⟩ : ∃ m : Nat, j * W + i = m := ⟨_, rfl⟩
          rw [hm] at hC
          have em : (j : Int) * (W : Int) + (i : Int) = (m : Int) := by rw [← hm]; simp
          have hjw : 0 ≤ (j : Int) * (W : Int) ∧ (j : Int) * (W : Int) ≤ 65536 := by
            have h := Nat.mul_le_mul (show j ≤ 256 by omega) hW2
            have e : ((j * W : Nat) : Int) = (j : Int) * (W : Int) := by simp
            omega
          obtain ⟨l, hl⟩ : ∃ l, rowR ms W j (allR ms W j) i = l := ⟨_, rfl⟩
          have hlb : l.length ≤ 65536 := by
            have h1 := rowR_length ms W j (allR ms W j) i
            have h2 := allR_length ms W j
            rw [hl] at h1
            exact row_bound hW2 hH2 hlt hi (by omega)
          rw [hl] at hO
          have hsucc : rowR ms W j (allR ms W j) (i + 1) = rstep l i j (ms m) (opn ms W j i) := by rw [← hl, ← hm]; rfl
          have hopn := opn_succ ms W j i
          rw [hm] at hopn
          have hne := rowR_ne (l := allR ms W j) (ms := ms) (W := W) (j := j) (i := i)
          rw [hl] at hne
          obtain ⟨o, ho⟩ : ∃ o, opn ms W j i = o := ⟨_, rfl⟩
          rw [ho] at hsucc hne ⊢
          obtain ⟨mb, hmb⟩ : ∃ b, ms m = b := ⟨_, rfl⟩
          rw [hmb] at hsucc hopn hC
          have HC := Lib.hid hC
          have HS := Lib.hid hsucc
          have HOP := Lib.hid hopn
          have HNE := Lib.hid hne
          have HO := Lib.hid hO
          obtain ⟨oa, oc, hoe, _, _⟩ := slice_lenR hO
          subst hoe
          clear hm hC hl hsucc hopn hne ho hmb hO HI hix
          go_wp2_with fail
          refine (HC.out wr hB).mono ?_; rintro e w1 ⟨rfl, hb1⟩
          have HB1 := Lib.hid hb1
          have HO1 := Lib.hid ((FrT.ofBelow hb1 0 []).row HO.out (.inl rfl))
          have hzw : w.heap.size ≤ w1.heap.size := Nat.le_trans hB.size hb1.size
          clear hb1 em hjw
          cases mb with
          | false =>
            have hs : rowR ms W j (allR ms W j) (i + 1) = l := by rw [HS.out]; rfl
            have HSS := Lib.hid hs
            clear hs
            go_wp2_with fail
            go_roundg (W - (i + 1))
            case measure => omega
            case rel =>
              refine ⟨i + 1, by omega, by omega, by first | rfl | simp, by rw [HOP.out], bon hB hB.size HB1.out, ?_⟩
              rw [HSS.out]
              exact HO1.out
          | true =>
            cases o with
            | true =>
              have hne := HNE.out rfl
              obtain ⟨g, c, hv, hc1, hc2, hg1, hg2, hcl, hfz⟩ := own_some HO1.out hne
              simp only [Value.slice.injEq] at hv
              obtain ⟨rfl, _, rfl⟩ := hv
              have hlp : 0 < l.length := List.length_pos_iff.2 hne
              obtain ⟨q, hq⟩ : ∃ q, l.length = q + 1 := ⟨l.length - 1, by omega⟩
              obtain ⟨k0, k1, k2, k3⟩ := rcCells_get l q (by omega)
              obtain ⟨vx, x2⟩ : ∃ v, w1.cell? ⟨g, q * 4 + 2, none⟩ = some (.int .i64 v) := ⟨_, hcl _ _ k2⟩
              have f2 := hfz (q * 4 + 2)
              have hst := store_last HO1.out hne ((i : Int) + 1)
              rw [show l.length - 1 = q by omega] at hst
              have hs : rowR ms W j (allR ms W j) (i + 1) = setLast l ((i : Int) + 1) := by rw [HS.out]; rfl
              have HSS := Lib.hid hs
              have HST := Lib.hid hst
              have HQ := Lib.hid hq
              rw [hq] at hlb ⊢
              clear hs hst hcl hfz k0 k1 k2 k3 hne hlp hc1 hq
              go_wp2_with fail
              go_roundg (W - (i + 1))
              case measure => omega
              case rel =>
                refine ⟨i + 1, by omega, by omega, by first | rfl | simp, by rw [HOP.out], ?_⟩
                rw [HSS.out]
                have hq := HQ.out
                have h1 := HST.out.1
                rw [hq] at h1
                exact ⟨(bon hB hB.size HB1.out).trans (HST.out.2.toBelow hzw), h1⟩
            | false =>
              have hs : rowR ms W j (allR ms W j) (i + 1) = l ++ [⟨i, j, (i : Int) + 1, (j : Int) + 1⟩] := by rw [HS.out]; rfl
              have HSS := Lib.hid hs
              clear hs
              obtain ⟨n, hn⟩ : ∃ n, l.length = n := ⟨_, rfl⟩
              have ho1 : w1.ownsRow w.heap.size 47 4 (.slice oa n oc) n (rcCells l) := by have := HO1.out; unfold OwnR at this; rw [hn] at this; exact this
              have HO2 := Lib.hid ho1
              have HN := Lib.hid hn
              rw [hn] at hlb ⊢
              clear ho1 hn
              go_upto_region 13 with (at_builtin; refine wpList_app _ [47] rfl el_rect (.tmp 30) (.tmp 37) rfl w.heap.size (.slice oa n oc) n (rcCells l) rfl (HO2.out.alloc _) (.slice (some ⟨w1.heap.size, 0, none⟩) 1 1) 1 (rcCell ⟨i, j, i, (j : Int) + 1⟩) rfl (Src.blk (cs := (rcCell ⟨i, j, i, (j : Int) + 1⟩).toArray) (Blk.newAt rfl) rfl (by simp [rcCell, Value.oneCell']) 1) (by omega) (by decide) (by simp; omega) rfl ?_; intro v2 w2 hr2 hf2; have HR2 := Lib.hid hr2; have HF2 := Lib.hid hf2; clear hr2 hf2)
              have hq2 : OwnR w2 w.heap.size v2 (l ++ [⟨i, j, i, (j : Int) + 1⟩]) := by
                show World.ownsRow _ _ _ _ _ (l ++ [(⟨i, j, i, (j : Int) + 1⟩ : Rc)]).length _
                rw [rcCells_append, List.length_append, HN.out]
                exact HR2.out
              obtain ⟨g, c2, hv2, hc1, hc2, hg1, hg2, hcl, hfz⟩ := own_some hq2 (by simp)
              rw [List.length_append, HN.out] at hv2 hc1
              subst hv2
              obtain ⟨k0, k1, k2, k3⟩ := rcCells_get (l ++ [(⟨i, j, i, (j : Int) + 1⟩ : Rc)]) n (by rw [List.length_append, HN.out]; simp)
              obtain ⟨vx, x2⟩ : ∃ v, w2.cell? ⟨g, n * 4 + 2, none⟩ = some (.int .i64 v) := ⟨_, hcl _ _ k2⟩
              have f2 := hfz (n * 4 + 2)
              have hq3 : OwnR w2 w.heap.size (.slice (some ⟨g, 0, none⟩) (l ++ [(⟨i, j, i, (j : Int) + 1⟩ : Rc)]).length c2) (l ++ [⟨i, j, i, (j : Int) + 1⟩]) := by rw [List.length_append, HN.out]; exact hq2
              have hst := store_last hq3 (by simp) ((i : Int) + 1)
              rw [setLast_append, List.length_append, HN.out] at hst
              have HST := Lib.hid hst
              have hz2 := HF2.out.size
              simp at hz2
              simp only [List.length_cons, List.length_nil, Nat.zero_add] at hc1 ⊢
              clear hq2 hq3 hcl hfz k0 k1 k2 k3 hst
              go_wp2_with fail
              go_roundg (W - (i + 1))
              case measure => omega
              case rel =>
                refine ⟨i + 1, by omega, by omega, by first | rfl | simp, by rw [HOP.out], ?_⟩
                rw [HSS.out]
                have hx : Below w.heap.size w1 w2 := ((Below.refl _ _).alloc hzw _).trans (HF2.out.toBelow (by simp; omega))
                exact ⟨((bon hB hB.size HB1.out).trans hx).trans (HST.out.2.toBelow (by omega)), HST.out.1⟩
        · obtain rfl : W = i := by omega
          obtain ⟨oa, oc, hoe, _, _⟩ := slice_lenR hO
          have HO := Lib.hid hO
          clear hO HI
          go_wp2_with fail
          go_roundg (H - (j + 1))
          case measure => omega
          case rel => exact ⟨j + 1, by omega, by omega, by first | rfl | simp, hB, HO.out⟩
    · obtain rfl : H = j := by omega
      obtain ⟨hB, hO⟩ := HI.out
      have hlb := allR_length ms W H
      have hlb2 := Nat.mul_le_mul hH2 hW2
      obtain ⟨l, hl⟩ : ∃ l, allR ms W H = l := ⟨_, rfl⟩
      rw [hl] at hO hlb
      have HLL := Lib.hid hl
      obtain ⟨oa, oc, hoe, _, _⟩ := slice_lenR hO
      subst hoe
      have HO := Lib.hid hO
      clear hO hl HI
      by_cases hbig : 256 < l.length
      · go_wp2_with fail
        go_ret2
        refine ⟨.slice none 0 0, ?_, hB, ?_⟩
        · rw [HLL.out, if_pos hbig]; rfl
        · rw [HLL.out, if_pos hbig]; exact World.ownsRow_nil _ _ _ _
      · go_wp2_with fail
        go_ret2
        refine ⟨.slice oa l.length oc, ?_, hB, ?_⟩
        · rw [HLL.out, if_neg hbig]; rfl
        · rw [HLL.out, if_neg hbig]; exact HO.out
end Go.Proofs.Ytgikmcgoaihggaa
