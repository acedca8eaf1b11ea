/- The two ways of changing a row's part: Paste's copy, BlendOver's loop. -/
import Derived.Test.YtgikmcgoaihggaaPutL
import Derived.Test.YtgikmcgoaihggaaCopyK
import Derived.Test.YtgikmcgoaihggaaFresh
import Derived.IntWalk
set_option linter.unusedVariables false
set_option linter.unusedSimpArgs false
namespace Go.Proofs.Ytgikmcgoaihggaa
open Go.RowKit Go.Sort
attribute [local go_sem ↓] Go.wp_at_zero Go.wp_at_succ
attribute [local go_sem] calm calmAt calmUpon

theorem pxCells_take {l : List Px} {o : Nat} (h : o ≤ l.length) : pxCells (l.take o) = (pxCells l).take (o * 4) := by
  have e : pxCells l = pxCells (l.take o) ++ pxCells (l.drop o) := by rw [← pxCells_append, List.take_append_drop]
  rw [e, List.take_left' (by rw [pxCells_length, List.length_take]; omega)]
theorem pxCells_drop {l : List Px} {o : Nat} (h : o ≤ l.length) : pxCells (l.drop o) = (pxCells l).drop (o * 4) := by
  have e : pxCells l = pxCells (l.take o) ++ pxCells (l.drop o) := by rw [← pxCells_append, List.take_append_drop]
  rw [e, List.drop_left' (by rw [pxCells_length, List.length_take]; omega)]
theorem FrT.setRow {w : World} {base g : Nat} {cur : Array Value} {e : TypeId} {z : Nat × Nat} (hg : w.heap[g]? = some (.cells cur e z)) (hb : base ≤ g) (cs : Array Value) : FrT base [e] w (w.setRow g cs) :=
  ⟨rfl, rfl, rfl, by simp, fun i o hi hc => by
    by_cases h : i = g
    · subst h
      rw [hg] at hi
      obtain rfl := Option.some.inj hi
      rcases hc with hc | hc
      · omega
      · simp [offT] at hc
    · rw [setRow_other _ _ _ _ h]; exact hi⟩
/-- A part of a row of the call's own replaced. -/
theorem OwnP.splice {w : World} {base g c n : Nat} {l ss : List Px} (h : w.ownsRow base 43 4 (.slice (some ⟨g, 0, none⟩) n c) n (pxCells l)) (hl : l.length = n) {o : Nat} (ho : o + ss.length ≤ n) :
    ∃ cur, w.heap[g]? = some (.cells cur 43 (0, 0)) ∧ o * 4 + (pxCells ss).length ≤ cur.size ∧
      (w.setRow g (cur.toList.take (o * 4) ++ (pxCells ss ++ cur.toList.drop (o * 4 + (pxCells ss).length))).toArray).ownsRow base 43 4 (.slice (some ⟨g, 0, none⟩) n c) n (pxCells (l.take o ++ ss ++ l.drop (o + ss.length))) ∧
      FrT base [43] w (w.setRow g (cur.toList.take (o * 4) ++ (pxCells ss ++ cur.toList.drop (o * 4 + (pxCells ss).length))).toArray) := by
  obtain ⟨h1, h2⟩ := h
  rcases h2 with ⟨h2, _⟩ | ⟨g', cap, cur, h2, hb, hg, hnc, hcm, hcs, htake⟩
  · simp at h2
  · simp only [Value.slice.injEq, Option.some.injEq, Addr.mk.injEq, and_true, true_and] at h2
    obtain ⟨rfl, rfl⟩ := h2
    have hk := pxCells_length ss
    have hfit : o * 4 + (pxCells ss).length ≤ cur.size := by rw [hk, hcs]; omega
    refine ⟨cur, hg, hfit, ?_, FrT.setRow hg hb _⟩
    have hcl : cur.toList.length = c * 4 := by simpa using hcs
    refine ⟨?_, .inr ⟨g, c, _, rfl, hb, setRow_heap _ _ _ _ _ _ hg, hnc, hcm, ?_, ?_⟩⟩
    · rw [pxCells_length]
      simp only [List.length_append, List.length_take, List.length_drop]
      omega
    · simp only [List.size_toArray, List.length_append, List.length_take, List.length_drop]
      omega
    · rw [pxCells_append, pxCells_append, pxCells_take (by omega), pxCells_drop (by omega), ← htake, List.take_take, List.drop_take]
      rw [show min (o * 4) (n * 4) = o * 4 by omega, ← List.append_assoc, hk]
      rw [show n * 4 = (cur.toList.take (o * 4) ++ pxCells ss).length + (n * 4 - (o + ss.length) * 4) by simp only [List.length_append, List.length_take]; omega]
      rw [List.take_length_add_append]
      rw [show (o + ss.length) * 4 = o * 4 + ss.length * 4 by omega]
      congr 2
      simp only [List.length_append, List.length_take]
      omega
/-- What changing a part of the row g leaves. -/
def ChOk (w : World) (base g c n : Nat) (l : List Px) (e : Ending) (w' : World) : Prop :=
  e = .returned (.tuple #[]) ∧ w'.ownsRow base 43 4 (.slice (some ⟨g, 0, none⟩) n c) n (pxCells l) ∧ FrT base [43] w w'
theorem bpaste1_any (base g c n o q b off : Nat) (l ss : List Px) (w : World) (h : w.ownsRow base 43 4 (.slice (some ⟨g, 0, none⟩) n c) n (pxCells l)) (hl : l.length = n) (ho : o + ss.length ≤ n) (hq : q = o * 4)
    (hr : Rdp w (some ⟨b, off, none⟩) ss) (hk : 0 < ss.length) :
    Calls Try.prog 60 #[.slice (some ⟨g, q, none⟩) ss.length ss.length, .slice (some ⟨b, off, none⟩) ss.length ss.length] w (ChOk w base g c n (segM cpy l ss o ss.length)) := by
  subst hq
  have e : segM cpy l ss o ss.length = l.take o ++ ss ++ l.drop (o + ss.length) := segM_copy (by omega)
  rw [e]
  obtain ⟨cur, hg, hfit, h1, h2⟩ := OwnP.splice h hl ho
  obtain ⟨L, hL⟩ : ∃ L, l.take o ++ ss ++ l.drop (o + ss.length) = L := ⟨_, rfl⟩
  rw [hL] at h1 ⊢
  have hsrc := (hr.src (c := ss.length) (fun h0 => by omega)).2.2
  have hsrc2 : ∀ j v, (pxCells ss)[j]? = some v → w.cell? ((⟨b, off, none⟩ : Addr).add j) = some v := by
    rcases hsrc with ⟨h0, _⟩ | ⟨ad, c', h0, hc⟩
    · cases h0
    · simp only [Value.slice.injEq, Option.some.injEq] at h0
      obtain ⟨rfl, _, _⟩ := h0
      exact hc
  have hlen := pxCells_length ss
  have hone := pxCells_one ss
  obtain ⟨k, hkk⟩ : ∃ k, ss.length = k := ⟨_, rfl⟩
  have hn2 : (pxCells ss).length = Nat.min k k * 4 := by rw [hlen, hkk]; congr 1; exact (Nat.min_self k).symm
  rw [hkk]
  have H1 := Lib.hid h1
  have H2 := Lib.hid h2
  have HG := Lib.hid hg
  have HS := Lib.hid hsrc2
  have HF := Lib.hid hfit
  have HO := Lib.hid hone
  have HN := Lib.hid hn2
  clear h1 h2 hg hsrc hsrc2 hfit hone hn2 hlen h hr e hl ho hk hkk hL
  go_enter Try.func60, Try.ntmps60
  go_wp2_with (with_reducible refine wpList_copy_wide rfl (.tmp 4) (.tmp 5) 25 25 rfl 43 4 Try.underlying25 (by kernel_rfl) g (o * 4) k k ⟨b, off, none⟩ k k rfl rfl cur 43 HG.out (pxCells ss) HN.out HS.out HF.out HO.out ?_)
  go_end0
  exact ⟨rfl, H1.out, H2.out⟩
theorem Rdp.belowB {w w' : World} {B b off : Nat} {ps : List Px} (hb : Below B w w') (hbB : b < B) (h : Rdp w (some ⟨b, off, none⟩) ps) : Rdp w' (some ⟨b, off, none⟩) ps := fun j hj => by
  obtain ⟨b', off', e, hl, c0, c1, c2, c3⟩ := h j hj
  simp only [Option.some.injEq, Addr.mk.injEq, and_true] at e
  obtain ⟨rfl, rfl⟩ := e
  exact ⟨b, off, rfl, Nat.lt_of_lt_of_le hl hb.size, (hb.cell (p := ⟨b, off + j * 4, none⟩) hbB).trans c0, (hb.cell (p := ⟨b, off + j * 4 + 1, none⟩) hbB).trans c1, (hb.cell (p := ⟨b, off + j * 4 + 2, none⟩) hbB).trans c2, (hb.cell (p := ⟨b, off + j * 4 + 3, none⟩) hbB).trans c3⟩
set_option maxRecDepth 100000 in
set_option maxHeartbeats 2000000 in
theorem bblend1_any (base g c n o q b off : Nat) (l ss : List Px) (w : World) (h : w.ownsRow base 43 4 (.slice (some ⟨g, 0, none⟩) n c) n (pxCells l)) (hl : l.length = n) (ho : o + ss.length ≤ n) (hq : q = o * 4)
    (hr : Rdp w (some ⟨b, off, none⟩) ss) (hk : 0 < ss.length) (hb : b < base) (hbw : base ≤ w.heap.size) (okl : PxsOk l) (oks : PxsOk ss) (hn : n ≤ 400000) :
    Calls Try.prog 62 #[.slice (some ⟨g, q, none⟩) ss.length ss.length, .slice (some ⟨b, off, none⟩) ss.length ss.length] w (ChOk w base g c n (segM bld l ss o ss.length)) := by
  subst hq
  obtain ⟨k, hkk⟩ : ∃ k, ss.length = k := ⟨_, rfl⟩
  rw [hkk] at ho hk ⊢
  have HK := Lib.hid hkk
  have HL := Lib.hid hl
  have HR := Lib.hid hr
  have hI0 : w.ownsRow base 43 4 (.slice (some ⟨g, 0, none⟩) n c) n (pxCells (segM bld l ss o 0)) ∧ FrT base [43] w w := ⟨by rw [segM_zero]; exact h, FrT.refl _ _ _⟩
  have HI := Lib.hid hI0
  clear hI0 hkk hl hr h
  go_enter Try.func62, Try.ntmps62
  go_wp2_with fail
  go_loopg [7] k (fun m s7 wr => ∃ i : Nat, m = k - i ∧ i ≤ k ∧ s7 = .int .i64 i ∧ wr.ownsRow base 43 4 (.slice (some ⟨g, 0, none⟩) n c) n (pxCells (segM bld l ss o i)) ∧ FrT base [43] w wr)
  case atStart => exact ⟨0, by omega, by omega, rfl, HI.out⟩
  case round =>
    obtain ⟨i, hm, hi, rfl, hO, hF⟩ := hrel
    by_cases hlt : i < k
    · have hil : o + i < l.length := by rw [HL.out]; omega
      have his : i < ss.length := by rw [HK.out]; exact hlt
      have hsl := segM_length (f := bld) (ds := l) (ss := ss) (o := o) (i := i)
      have hnx := segM_next (f := bld) (ds := l) (ss := ss) hil (by rw [hsl]; exact hil)
      have hsu := segM_succ (f := bld) (ss := ss) hil
      rw [getD_at hil, getD_at his] at hsu
      have okd := ok_at okl hil
      have okp := ok_at oks his
      obtain ⟨k0, k1, k2, k3⟩ := pxCells_get (segM bld l ss o i) (o + i) (by rw [hsl]; exact hil)
      rw [hnx] at k0 k1 k2 k3
      rw [Nat.add_mul] at k0 k1 k2 k3
      obtain ⟨b', off', e', hbl, x0, x1, x2, x3⟩ := Rdp.belowB (hF.toBelow hbw) hb HR.out i his
      obtain ⟨rfl, rfl⟩ := addr_inj e'
      obtain ⟨P, hP⟩ : ∃ P, ss[i] = P := ⟨_, rfl⟩
      obtain ⟨D, hD⟩ : ∃ D, l[o + i] = D := ⟨_, rfl⟩
      rw [hP] at hsu okp x0 x1 x2 x3
      rw [hD] at hsu okd k0 k1 k2 k3
      obtain ⟨P0, P1, P2, P3⟩ := P
      obtain ⟨D0, D1, D2, D3⟩ := D
      obtain ⟨oP0, oP1, oP2, oP3⟩ := okp
      obtain ⟨oD0, oD1, oD2, oD3⟩ := okd
      simp only at oP0 oP1 oP2 oP3 oD0 oD1 oD2 oD3 x0 x1 x2 x3 k0 k1 k2 k3
      have y0 := (hO.cellAt (o * 4 + i * 4) (by omega)).trans k0
      have y1 := (hO.cellAt (o * 4 + i * 4 + 1) (by omega)).trans k1
      have y2 := (hO.cellAt (o * 4 + i * 4 + 2) (by omega)).trans k2
      have y3 := (hO.cellAt (o * 4 + i * 4 + 3) (by omega)).trans k3
      have hgl := World.block_lt_of_cell? wr _ y0
      have g0 := cell_regrown x0
      have g1 := cell_regrown x1
      have g2 := cell_regrown x2
      have g3 := cell_regrown x3
      have g4 := cell_regrown y0
      have g5 := cell_regrown y1
      have g6 := cell_regrown y2
      have g7 := cell_regrown y3
      have b1 : (0 : Int) ≤ (i : Int) := by omega
      have b2 : (i : Int) < (k : Int) := by omega
      have hki : (k : Int) ≤ 400000 := by omega
      have HSU := Lib.hid hsu
      have HO := Lib.hid hO
      have HF := Lib.hid hF
      have HSL := Lib.hid hsl
      clear hsu hO hF hsl hnx hP hD his hil e' HI k0 k1 k2 k3
      go_wp2_with fail
      (refine wp_region_calm 12 [] [false, false, false, false, false, false, false, false, false, false, false, false] (by kernel_rfl) (by kernel_rfl) (by decide) (freshOk_of (by kernel_rfl) (by kernel_rfl) (fun x hx => by cases hx)) ?_; simp only [List.take_succ_cons, List.take_zero, List.drop_succ_cons, List.drop_zero, List.zip_cons_cons, List.zip_nil_left, List.zip_nil_right]; (repeat (first | refine wpCalm_pass ?_ | (refine wpCalm_step (fun K hK => ?_); go_simp; first | (refine hK _ ?_; clear hK K) | (apply Exists.intro; refine ⟨fun _ => ?_, hK _ ?_⟩; (go_at_call 63; exact over_any P0 P1 P2 P3 D0 D1 D2 D3 _ oP0 oP1 oP2 oP3 oD0 oD1 oD2 oD3); clear hK K)))); (first | refine wpCalm_nil ?_ | skip))
      intro F wz hFz
      obtain rfl := hFz.nil
      have hbz := hFz.below
      clear g0 g1 g2 g3 g4 g5 g6 g7 hFz
      have hOz := (FrT.ofBelow hbz 0 []).row HO.out (.inl rfl)
      have hp := OwnP.put hOz (HL.out ▸ HSL.out).symm (j := o + i) (by omega) (overP ⟨P0, P1, P2, P3⟩ ⟨D0, D1, D2, D3⟩)
      rw [Nat.add_mul] at hp
      have hs := HSU.out
      rw [show bld ⟨D0, D1, D2, D3⟩ ⟨P0, P1, P2, P3⟩ = overP ⟨P0, P1, P2, P3⟩ ⟨D0, D1, D2, D3⟩ from rfl] at hs
      rw [← hs] at hp
      have hFF := (HF.out.trans (FrT.ofBelow hbz _ _)).trans hp.2
      obtain ⟨z0, w0⟩ : ∃ v, wz.cell? ⟨g, o * 4 + i * 4, none⟩ = some (.int .u8 v) := ⟨_, (hbz.cell (p := ⟨g, o * 4 + i * 4, none⟩) hgl).trans y0⟩
      obtain ⟨z1, w1⟩ : ∃ v, wz.cell? ⟨g, o * 4 + i * 4 + 1, none⟩ = some (.int .u8 v) := ⟨_, (hbz.cell (p := ⟨g, o * 4 + i * 4 + 1, none⟩) hgl).trans y1⟩
      obtain ⟨z2, w2⟩ : ∃ v, wz.cell? ⟨g, o * 4 + i * 4 + 2, none⟩ = some (.int .u8 v) := ⟨_, (hbz.cell (p := ⟨g, o * 4 + i * 4 + 2, none⟩) hgl).trans y2⟩
      obtain ⟨z3, w3⟩ : ∃ v, wz.cell? ⟨g, o * 4 + i * 4 + 3, none⟩ = some (.int .u8 v) := ⟨_, (hbz.cell (p := ⟨g, o * 4 + i * 4 + 3, none⟩) hgl).trans y3⟩
      have f0 := hOz.frozenAt (o * 4 + i * 4)
      have f1 := hOz.frozenAt (o * 4 + i * 4 + 1)
      have f2 := hOz.frozenAt (o * 4 + i * 4 + 2)
      have f3 := hOz.frozenAt (o * 4 + i * 4 + 3)
      have HP := Lib.hid hp.1
      have HFF := Lib.hid hFF
      clear hp hs hFF hOz x0 x1 x2 x3 y0 y1 y2 y3
      unfold putL
      go_wp2_with fail
      go_roundg (k - (i + 1))
      case measure => omega
      case rel => exact ⟨i + 1, by omega, by omega, by first | rfl | simp, HP.out, HFF.out⟩
    · obtain rfl : k = i := by omega
      have HO := Lib.hid hO
      have HF := Lib.hid hF
      clear hO hF HI
      go_wp2_with fail
      go_end0
      exact ⟨rfl, HO.out, HF.out⟩
end Go.Proofs.Ytgikmcgoaihggaa
