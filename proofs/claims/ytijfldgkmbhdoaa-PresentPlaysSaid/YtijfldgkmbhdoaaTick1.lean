/- Tick's own function: a report behind the others. -/
import Derived.Test.YtijfldgkmbhdoaaCom
set_option linter.unusedVariables false
set_option linter.unusedSimpArgs false
namespace Go.Proofs.Ytijfldgkmbhdoaa
open Go.RowKit
attribute [local go_sem ↓] Go.wp_at_zero Go.wp_at_succ

/-- A delivery. -/
structure Dl where
  s : Int
  k : Int
  t : Int
  c : Int
deriving DecidableEq
def dlCell (d : Dl) : List Value := [.int .i64 0, .int .i64 d.s, .int .i64 d.k, .int .i64 d.t, .int .i64 0, .int .i64 0, .int .i64 d.c, .int .i64 0, .int .u32 0]
def dlCells (l : List Dl) : List Value := l.flatMap dlCell
theorem dlCells_append (a b : List Dl) : dlCells (a ++ b) = dlCells a ++ dlCells b := by simp [dlCells]
theorem dlCells_length (a : List Dl) : (dlCells a).length = a.length * 9 := by
  unfold dlCells
  induction a with
  | nil => rfl
  | cons x l ih => simp only [List.flatMap_cons, List.length_append, ih, List.length_cons, dlCell, List.length_nil]; omega
/-- The deliveries so far, in a variable of their own. -/
structure Outs (w : World) (H bo : Nat) (ov : Value) (l : List Dl) : Prop where
  base : H ≤ bo
  blk : Blk w bo 45 #[ov]
  row : w.ownsRow H 48 9 ov l.length (dlCells l)
theorem dl_cells {w : World} {B : Nat} {v : Value} {l : List Dl} (r : w.ownsRow B 48 9 v l.length (dlCells l)) (h : 0 < l.length) :
    ∃ g cap, v = .slice (some ⟨g, 0, none⟩) l.length cap ∧ l.length ≤ cap ∧ g < w.heap.size ∧ ∀ j u, (dlCells l)[j]? = some u → w.cell? ⟨g, j, none⟩ = some u := by
  rcases r.2 with ⟨_, h0⟩ | ⟨g, cap, cur, rfl, hbg, hg, h1, h2, _⟩
  · omega
  · refine ⟨g, cap, rfl, h1, (Array.getElem?_eq_some_iff.1 hg).1, fun j u hu => ?_⟩
    have hj := (List.getElem?_eq_some_iff.1 hu).1
    rw [dlCells_length] at hj
    rw [r.cellAt j hj, hu]
def Reported (w : World) (H bo : Nat) (l : List Dl) (d : Dl) (e : Ending) (w' : World) : Prop :=
  e = .returned (.tuple #[]) ∧ FrT H [48, 45] w w' ∧ ∃ ov', Outs w' H bo ov' (l ++ [d])
theorem report_end {w w1 : World} {H bo : Nat} {ov o1 : Value} {l : List Dl} {d : Dl} {o : Obj} (h : Outs w H bo ov l) (f1 : FrT H [48] (w.alloc o) w1) (k1 : Blk w1 bo 45 #[ov])
    (r1 : w1.ownsRow H 48 9 o1 (l.length + 1) (dlCells l ++ dlCell d)) : FrT H [48, 45] w (w1.setCell ⟨bo, 0, none⟩ o1) ∧ ∃ ov', Outs (w1.setCell ⟨bo, 0, none⟩ o1) H bo ov' (l ++ [d]) := by
  have g1 : FrT H [48] w w1 := ((FrT.refl _ _ w).alloc o).trans f1
  have g2 : FrT H [45] w1 (w1.setCell ⟨bo, 0, none⟩ o1) := (FrT.refl _ _ _).set k1 rfl h.base o1
  refine ⟨(g1.mono (Nat.le_refl _) (by simp)).trans (g2.mono (Nat.le_refl _) (by simp)), o1, h.base, k1.set 0 o1, ?_⟩
  have := g2.row r1 (.inl rfl)
  rw [dlCells_append]
  simpa [dlCells] using this
set_option maxHeartbeats 1000000 in
theorem ptick1_ok (H bo : Nat) (ov : Value) (l : List Dl) (s k t c : Int) (w : World) (h : Outs w H bo ov l) (hl : l.length < 100000) :
    Calls Try.prog 46 #[.int .i64 s, .int .i64 k, .int .i64 t, .int .i64 c, .pointer (some ⟨bo, 0, none⟩)] w (Reported w H bo l ⟨s, k, t, c⟩) := by
  obtain ⟨c0, f0⟩ := h.blk.c1
  obtain ⟨oa, oc, ho, _, _⟩ := slice_len h.row
  subst ho
  have hbl := h.blk.lt
  have hHb := h.base
  have HH := Lib.hid h
  obtain ⟨n, hn⟩ : ∃ n, l.length = n := ⟨_, rfl⟩
  rw [hn] at c0 hl
  have HR : w.ownsRow H 48 9 (.slice oa n oc) n (dlCells l) := by have := h.row; rw [hn] at this; exact this
  have HK : Blk w bo 45 #[.slice oa n oc] := by have := h.blk; rw [hn] at this; exact this
  have HRR := Lib.hid HR
  have HKK := Lib.hid HK
  have HN := Lib.hid hn
  clear HR HK hn h
  go_enter Try.func46, Try.ntmps46
  go_wp2_with (at_builtin; refine wpList_app _ [48] rfl el_del (.tmp 9) (.tmp 15) rfl H (.slice oa n oc) n (dlCells l) rfl (HRR.out.alloc _) (.slice (some ⟨w.heap.size, 0, none⟩) 1 1) 1 (dlCell ⟨s, k, t, c⟩) rfl (Src.blk (cs := (dlCell ⟨s, k, t, c⟩).toArray) (Blk.newAt rfl) rfl (by simp [dlCell, Value.oneCell']) 1) (by omega) (by decide) (by simp; omega) rfl ?_; intro v1 w1 hr1 hf1; have K1 := hf1.blk (HKK.out.alloc _) (.inr rfl); obtain ⟨d0, e0⟩ := K1.c1; have HK1 := Lib.hid K1; have HR1 := Lib.hid hr1; have HF1 := Lib.hid hf1; obtain ⟨a1, b1, hv1, _, _⟩ := slice_len hr1; subst hv1; clear hr1 hf1 K1)
  have hn := HN.out
  subst hn
  exact ⟨rfl, _, results_none rfl _ _ _, rfl, report_end HH.out HF1.out HK1.out HR1.out⟩
end Go.Proofs.Ytijfldgkmbhdoaa
