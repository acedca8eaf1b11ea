/- The reference's Runs. -/
import Derived.Test.YtgikmcgoaihggaaBRun
set_option linter.unusedVariables false
set_option linter.unusedSimpArgs false
namespace Go.Proofs.Ytgikmcgoaihggaa
open Go.RowKit Go.Sort
attribute [local go_sem ↓] Go.wp_at_zero Go.wp_at_succ

/-- A list of marks may be read. -/
def Rdb (w : World) (A : Option Addr) (bs : List Bool) : Prop :=
  ∀ j (h : j < bs.length), ∃ b off, A = some ⟨b, off, none⟩ ∧ b < w.heap.size ∧ w.cell? ⟨b, off + j, none⟩ = some (.bool bs[j])
theorem Rdb.below {w w' : World} {A : Option Addr} {bs : List Bool} (hb : Below w.heap.size w w') (h : Rdb w A bs) : Rdb w' A bs := fun j hj => by
  obtain ⟨b, off, e, hl, hc⟩ := h j hj
  exact ⟨b, off, e, Nat.lt_of_lt_of_le hl hb.size, (hb.cell (p := ⟨b, off + j, none⟩) hl).trans hc⟩
abbrev OwnB (w : World) (base : Nat) (v : Value) (bs : List Bool) : Prop := w.ownsRow base 4 1 v bs.length (bs.map Value.bool)
theorem OwnB.form {w : World} {base : Nat} {v : Value} {bs : List Bool} (h : OwnB w base v bs) : ∃ A c, v = .slice A bs.length c ∧ bs.length ≤ c ∧ c ≤ 9223372036854775807 ∧ Rdb w A bs := by
  rcases h.2 with ⟨rfl, h0⟩ | ⟨g, cap, cur, rfl, hbg, hg, h1, h2, _⟩
  · have h0' : bs.length = 0 := h0
    exact ⟨none, 0, by rw [h0'], by omega, by omega, fun j hj => by omega⟩
  · refine ⟨_, cap, rfl, h1, by simp only [maxLen] at h2; omega, fun j hj => ⟨g, 0, rfl, (Array.getElem?_eq_some_iff.1 hg).1, ?_⟩⟩
    rw [Nat.zero_add, h.cellAt j (by omega)]
    simp [hj]
theorem el_bool : El Try.prog 59 4 1 1 := El.of (z := .bool false) Try.underlying59 (by kernel_rfl) rfl (by decide)
theorem rowR_congr {ms ms' : Nat → Bool} {W j N : Nat} (l : List Rc) (h : ∀ i, i < N → ms i = ms' i) : ∀ i, j * W + i ≤ N → rowR ms W j l i = rowR ms' W j l i
  | 0, _ => rfl
  | i + 1, hi => by
    simp only [rowR]
    rw [rowR_congr l h i (by omega), h (j * W + i) (by omega)]
    congr 1
    unfold opn
    by_cases h0 : 0 < i
    · rw [h (j * W + i - 1) (by omega)]
    · rw [decide_eq_false h0]; rfl
theorem allR_congr {ms ms' : Nat → Bool} {W N : Nat} (h : ∀ i, i < N → ms i = ms' i) : ∀ j, j * W ≤ N → allR ms W j = allR ms' W j
  | 0, _ => rfl
  | j + 1, hj => by
    rw [Nat.add_mul, Nat.one_mul] at hj
    simp only [allR]
    rw [allR_congr h j (by omega)]
    exact rowR_congr _ h W (by omega)
def markM (bs : List Bool) (i : Nat) : Bool := bs.getD i false
def RunsV (w : World) (l : List Rc) (e : Ending) (w' : World) : Prop := ∃ v, e = .returned v ∧ Below w.heap.size w w' ∧ OwnR w' w.heap.size v l
set_option maxRecDepth 100000 in
set_option maxHeartbeats 2000000 in
theorem vruns_any (W H : Nat) (A : Option Addr) (bs : List Bool) (c : Nat) (w : World) (hW : 1 ≤ W ∧ W ≤ 256) (hH : 1 ≤ H ∧ H ≤ 256) (hr : Rdb w A bs) (hl : bs.length = H * W) :
    Calls Try.prog 46 #[.int .i64 W, .int .i64 H, .slice A bs.length c] w (RunsV w (allR (markM bs) W H)) := by
  obtain ⟨hW1, hW2⟩ := hW
  obtain ⟨hH1, hH2⟩ := hH
  have hHW := Nat.mul_le_mul hH2 hW2
  obtain ⟨n, hn⟩ : ∃ n, bs.length = n := ⟨_, rfl⟩
  rw [hn] at hl ⊢
  have hn6 : n ≤ 65536 := by omega
  have HN := Lib.hid hn
  have HL := Lib.hid hl
  have HR := Lib.hid hr
  clear hn hl hr hHW
  go_enter Try.func46, Try.ntmps46
  go_wp2_with fail
  go_loopg [7, 8] H (fun k s7 s8 wr => ∃ j : Nat, k = H - j ∧ j ≤ H ∧ s8 = .int .i64 j ∧ RunI w (allR (markM bs) W j) s7 wr)
  case atStart => exact ⟨0, by omega, by omega, by first | rfl | simp, Below.refl _ _, World.ownsRow_nil _ _ _ _⟩
  case round =>
    obtain ⟨j, hk, hj, rfl, hI⟩ := hrel
    have HI := Lib.hid hI
    clear hI
    by_cases hlt : j < H
    · go_wp2_with fail
      go_loopg [7, 9] W (fun k s7 s9 wr => ∃ i : Nat, k = W - i ∧ i ≤ W ∧ s9 = .int .i64 i ∧ RunI w (rowR (markM bs) W j (allR (markM bs) W j) i) s7 wr)
      case atStart => exact ⟨0, by omega, by omega, by first | rfl | simp, HI.out⟩
      case round =>
        obtain ⟨i, hk2, hi, rfl, hB, hO⟩ := hrel
        by_cases hlti : i < W
        · have hix := idx_lt hlt hlti
          obtain ⟨m, hm⟩ : ∃ m : Nat, j * W + i = m := ⟨_, rfl⟩
          rw [hm, ← HL.out] at hix
          have em : (j : Int) * (W : Int) + (i : Int) = (m : Int) := by rw [← hm]; simp
          have hjw : 0 ≤ (j : Int) * (W : Int) ∧ (j : Int) * (W : Int) ≤ 65536 := by
            have h := Nat.mul_le_mul (show j ≤ 256 by omega) hW2
            have e : ((j * W : Nat) : Int) = (j : Int) * (W : Int) := by simp
            omega
          obtain ⟨b, off, hA, hbl, hc⟩ := HR.out m (by rw [HN.out]; exact hix)
          have hmk : markM bs m = bs[m]'(by rw [HN.out]; exact hix) := by unfold markM; rw [List.getD_eq_getElem?_getD, List.getElem?_eq_getElem (by rw [HN.out]; exact hix), Option.getD_some]
          rw [← hmk] at hc
          replace hc := (hB.cell (p := ⟨b, off + m, none⟩) hbl).trans hc
          obtain ⟨l, hl⟩ : ∃ l, rowR (markM bs) W j (allR (markM bs) W j) i = l := ⟨_, rfl⟩
          have hlb : l.length ≤ 65536 := by
            have h1 := rowR_length (markM bs) W j (allR (markM bs) W j) i
            have h2 := allR_length (markM bs) W j
            rw [hl] at h1
            exact row_bound hW2 hH2 hlt hi (by omega)
          rw [hl] at hO
          have hsucc : rowR (markM bs) W j (allR (markM bs) W j) (i + 1) = rstep l i j (markM bs m) (opn (markM bs) W j i) := by rw [← hl, ← hm]; rfl
          have hopd : opn (markM bs) W j i = (decide (0 < i) && markM bs (m - 1)) := by unfold opn; rw [hm]
          have hne := rowR_ne (l := allR (markM bs) W j) (ms := markM bs) (W := W) (j := j) (i := i)
          rw [hl] at hne
          obtain ⟨o, ho⟩ : ∃ o, opn (markM bs) W j i = o := ⟨_, rfl⟩
          rw [ho] at hsucc hne hopd
          obtain ⟨mb, hmb⟩ : ∃ b, markM bs m = b := ⟨_, rfl⟩
          rw [hmb] at hsucc hc
          have HS := Lib.hid hsucc
          have HOP := Lib.hid hopd
          have HNE := Lib.hid hne
          have HO := Lib.hid hO
          obtain ⟨oa, oc, hoe, _, _⟩ := slice_lenR hO
          subst hoe
          have hmi : i ≤ m := by rw [← hm]; omega
          have hprev : 0 < i → ∃ pm, markM bs (m - 1) = pm ∧ wr.cell? ⟨b, off + (m - 1), none⟩ = some (.bool pm) := by
            intro h0
            obtain ⟨b', off', hA', hbl', hc'⟩ := HR.out (m - 1) (by rw [HN.out]; omega)
            rw [hA] at hA'
            simp only [Option.some.injEq, Addr.mk.injEq, and_true] at hA'
            obtain ⟨rfl, rfl⟩ := hA'
            refine ⟨_, rfl, ?_⟩
            have hmk : markM bs (m - 1) = bs[m - 1]'(by rw [HN.out]; omega) := by unfold markM; rw [List.getD_eq_getElem?_getD, List.getElem?_eq_getElem (by rw [HN.out]; omega), Option.getD_some]
            rw [hmk]
            exact (hB.cell (p := ⟨b, off + (m - 1), none⟩) hbl).trans hc'
          have HP := Lib.hid hprev
          subst hA
          clear hm hl hsucc hopd hne ho hmb hO HI hprev hmk
          have hzw : w.heap.size ≤ wr.heap.size := hB.size
          cases mb with
          | false =>
            have hs : rowR (markM bs) W j (allR (markM bs) W j) (i + 1) = l := by rw [HS.out]; rfl
            have HSS := Lib.hid hs
            clear hs
            go_wp2_with fail
            go_roundg (W - (i + 1))
            case measure => omega
            case rel =>
              refine ⟨i + 1, by omega, by omega, by first | rfl | simp, hB, ?_⟩
              rw [HSS.out]
              exact HO.out
          | true =>
            by_cases hset : o = true
            · have hi0 : 0 < i := by
                have := HOP.out
                rw [hset] at this
                by_cases h0 : 0 < i
                · exact h0
                · rw [decide_eq_false h0] at this; cases this
              obtain ⟨pm, hpm, hcp⟩ := HP.out hi0
              obtain rfl : pm = true := by
                have := HOP.out
                rw [hset, hpm, decide_eq_true hi0] at this
                exact this.symm
              have hne := HNE.out hset
              obtain ⟨g, c, hv, hc1, hc2, hg1, hg2, hcl, hfz⟩ := own_some HO.out hne
              simp only [Value.slice.injEq] at hv
              obtain ⟨rfl, _, rfl⟩ := hv
              have hlp : 0 < l.length := List.length_pos_iff.2 hne
              obtain ⟨q, hq⟩ : ∃ q, l.length = q + 1 := ⟨l.length - 1, by omega⟩
              obtain ⟨k0, k1, k2, k3⟩ := rcCells_get l q (by omega)
              obtain ⟨vx, x2⟩ : ∃ v, wr.cell? ⟨g, q * 4 + 2, none⟩ = some (.int .i64 v) := ⟨_, hcl _ _ k2⟩
              have f2 := hfz (q * 4 + 2)
              have hst := store_last HO.out hne ((i : Int) + 1)
              rw [show l.length - 1 = q by omega] at hst
              have hs : rowR (markM bs) W j (allR (markM bs) W j) (i + 1) = setLast l ((i : Int) + 1) := by rw [HS.out, hset]; rfl
              have HSS := Lib.hid hs
              have HST := Lib.hid hst
              have HQ := Lib.hid hq
              rw [hq] at hlb ⊢
              have s1 : (1 : Int) ≤ (m : Int) := by omega
              have s2 : ((m : Int) - 1).toNat = m - 1 := by omega
              have s3 : (m : Int) - 1 < (n : Int) := by omega
              have s4 : (0 : Int) ≤ (m : Int) - 1 := by omega
              have s5 : (0 : Int) < (i : Int) := by omega
              clear hs hst hcl hfz k0 k1 k2 k3 hne hlp hc1 hq hpm hset
              go_wp2_with fail
              go_roundg (W - (i + 1))
              case measure => omega
              case rel =>
                refine ⟨i + 1, by omega, by omega, by first | rfl | simp, ?_⟩
                rw [HSS.out]
                have hq := HQ.out
                have h1 := HST.out.1
                rw [hq] at h1
                exact ⟨hB.trans (HST.out.2.toBelow hzw), h1⟩
            · have ho' : o = false := by simpa using hset
              have hs : rowR (markM bs) W j (allR (markM bs) W j) (i + 1) = l ++ [⟨i, j, (i : Int) + 1, (j : Int) + 1⟩] := by rw [HS.out, ho']; rfl
              have HSS := Lib.hid hs
              have HPM := Lib.hid (show 0 < i → wr.cell? ⟨b, off + (m - 1), none⟩ = some (.bool false) from fun h0 => by
                obtain ⟨pm, hpm, hcp⟩ := HP.out h0
                have := HOP.out
                rw [ho', hpm, decide_eq_true h0, Bool.true_and] at this
                rw [this]; exact hcp)
              clear hs hset ho'
              obtain ⟨nl, hn⟩ : ∃ n, l.length = n := ⟨_, rfl⟩
              have ho1 : wr.ownsRow w.heap.size 47 4 (.slice oa nl oc) nl (rcCells l) := by have := HO.out; unfold OwnR at this; rw [hn] at this; exact this
              have HO2 := Lib.hid ho1
              have HNL := Lib.hid hn
              rw [hn] at hlb ⊢
              clear ho1 hn
              by_cases hi0 : 0 < i
              · have hcp := HPM.out hi0
                have s1 : (1 : Int) ≤ (m : Int) := by omega
                have s2 : ((m : Int) - 1).toNat = m - 1 := by omega
                have s3 : (m : Int) - 1 < (n : Int) := by omega
                have s4 : (0 : Int) ≤ (m : Int) - 1 := by omega
                have s5 : (0 : Int) < (i : Int) := by omega
                go_wp2_with (at_builtin; refine wpList_app _ [47] rfl el_rect (.tmp 50) (.tmp 58) rfl w.heap.size (.slice oa nl oc) nl (rcCells l) rfl (HO2.out.alloc _) (.slice (some ⟨wr.heap.size, 0, none⟩) 1 1) 1 (rcCell ⟨i, j, (i : Int) + 1, (j : Int) + 1⟩) rfl (Src.blk (cs := (rcCell ⟨i, j, (i : Int) + 1, (j : Int) + 1⟩).toArray) (Blk.newAt rfl) rfl (by simp [rcCell, Value.oneCell']) 1) (by omega) (by decide) (by simp; omega) rfl ?_; intro v2 w2 hr2 hf2; have HR2 := Lib.hid hr2; have HF2 := Lib.hid hf2; clear hr2 hf2)
                go_roundg (W - (i + 1))
                case measure => omega
                case rel =>
                  refine ⟨i + 1, by omega, by omega, by first | rfl | simp, ?_⟩
                  rw [HSS.out]
                  refine ⟨hB.trans (((Below.refl _ _).alloc hzw _).trans (HF2.out.toBelow (by simp; omega))), ?_⟩
                  show World.ownsRow _ _ _ _ _ (l ++ [(⟨i, j, (i : Int) + 1, (j : Int) + 1⟩ : Rc)]).length _
                  rw [rcCells_append, List.length_append, HNL.out]
                  exact HR2.out
              · have s5 : ¬ (0 : Int) < (i : Int) := by omega
                go_wp2_with (at_builtin; refine wpList_app _ [47] rfl el_rect (.tmp 50) (.tmp 58) rfl w.heap.size (.slice oa nl oc) nl (rcCells l) rfl (HO2.out.alloc _) (.slice (some ⟨wr.heap.size, 0, none⟩) 1 1) 1 (rcCell ⟨i, j, (i : Int) + 1, (j : Int) + 1⟩) rfl (Src.blk (cs := (rcCell ⟨i, j, (i : Int) + 1, (j : Int) + 1⟩).toArray) (Blk.newAt rfl) rfl (by simp [rcCell, Value.oneCell']) 1) (by omega) (by decide) (by simp; omega) rfl ?_; intro v2 w2 hr2 hf2; have HR2 := Lib.hid hr2; have HF2 := Lib.hid hf2; clear hr2 hf2)
                go_roundg (W - (i + 1))
                case measure => omega
                case rel =>
                  refine ⟨i + 1, by omega, by omega, by first | rfl | simp, ?_⟩
                  rw [HSS.out]
                  refine ⟨hB.trans (((Below.refl _ _).alloc hzw _).trans (HF2.out.toBelow (by simp; omega))), ?_⟩
                  show World.ownsRow _ _ _ _ _ (l ++ [(⟨i, j, (i : Int) + 1, (j : Int) + 1⟩ : Rc)]).length _
                  rw [rcCells_append, List.length_append, HNL.out]
                  exact HR2.out
        · obtain rfl : W = i := by omega
          have HO := Lib.hid hO
          clear hO HI
          go_wp2_with fail
          go_roundg (H - (j + 1))
          case measure => omega
          case rel => exact ⟨j + 1, by omega, by omega, by first | rfl | simp, hB, HO.out⟩
    · obtain rfl : H = j := by omega
      obtain ⟨hB, hO⟩ := HI.out
      have HO := Lib.hid hO
      clear hO HI
      go_wp2_with fail
      go_ret
      exact ⟨_, rfl, hB, HO.out⟩
end Go.Proofs.Ytgikmcgoaihggaa
