/- Clones of pixels and of buffers. -/
import Derived.Test.YtgikmcgoaihggaaBDecP
import Derived.Test.YtgikmcgoaihggaaBDec
import Derived.Lib.SliceRun
set_option linter.unusedVariables false
set_option linter.unusedSimpArgs false
namespace Go.Proofs.Ytgikmcgoaihggaa
open Go.RowKit Go.Sort
attribute [local go_sem ↓] Go.wp_at_zero Go.wp_at_succ

/-- slices.Clone's contract: pixels of the call's own. -/
def Own1 (w : World) (ps : List Px) (e : Ending) (w' : World) : Prop := ∃ v, e = .returned v ∧ Below w.heap.size w w' ∧ OwnP w' w.heap.size v ps
set_option maxHeartbeats 1000000 in
theorem sclone_any (A : Option Addr) (ps : List Px) (c : Nat) (w : World) (hr : Rdp w A ps) (hl : ps.length ≤ 400000) (h0 : ps.length = 0 → A = none → c = 0) :
    Calls Try.prog 70 #[.slice A ps.length c] w (Own1 w ps) := by
  have hs := Rdp.src (c := c) hr h0
  cases A with
  | none =>
    have hz : ps = [] := by
      cases ps with
      | nil => rfl
      | cons z l => obtain ⟨b, off, e, _⟩ := hr 0 (by simp); cases e
    subst hz
    obtain rfl := h0 rfl rfl
    clear hs h0 hr hl
    simp only [List.length_nil]
    have qT : ∀ (w : World) (a : Option Addr) (n c n' c' : Nat), (binOp .eql 25 (.slice a n c) (.slice none n' c')).run Try.prog w = .ok (.bool a.isNone) w := fun w a n c n' c' => Lib.run_eql_slice_nil w _ _ a n c n' c' Try.underlying25
    go_enter Try.func70, Try.ntmps70
    go_wp2_with fail
    go_ret
    exact ⟨_, rfl, by (with_reducible repeat (first | assumption | exact Below.refl _ _ | refine Below.setCell ?_ (by first | omega | (simp; done) | (simp; omega)) _ | refine Below.drew ?_ | refine bdrewN ?_ _ | refine Below.alloc ?_ (by first | omega | (simp; done) | (simp; omega)) _)), World.ownsRow_nil _ _ _ _⟩
  | some ad =>
    obtain ⟨n, hn⟩ : ∃ n, ps.length = n := ⟨_, rfl⟩
    rw [hn] at hs hl ⊢
    have HS := Lib.hid hs
    have HN := Lib.hid hn
    clear hs hn h0 hr
    have qT : ∀ (w : World) (a : Option Addr) (n c n' c' : Nat), (binOp .eql 25 (.slice a n c) (.slice none n' c')).run Try.prog w = .ok (.bool a.isNone) w := fun w a n c n' c' => Lib.run_eql_slice_nil w _ _ a n c n' c' Try.underlying25
    go_enter Try.func70, Try.ntmps70
    go_wp2_with (at_builtin; refine wpList_app _ [43] rfl el_px (.tmp 5) (.tmp 6) rfl w.heap.size (.slice (some ⟨w.heap.size, 0, none⟩) 0 0) 0 [] rfl (ownsRow_empty rfl (Nat.le_refl _)) (.slice (some ad) n c) n (pxCells ps) rfl (Src.below ((Below.refl _ _).alloc (Nat.le_refl _) _) HS.out) (by omega) (by decide) (by simp) rfl ?_; intro v1 w1 hr1 hf1; simp only [Nat.zero_add, List.nil_append] at hr1; obtain ⟨a1, e1, hv1, _, _⟩ := slice_lenB hr1; subst hv1; have hb1 : Below w.heap.size w w1 := ((Below.refl _ _).alloc (Nat.le_refl _) _).trans (hf1.toBelow (by simp)); have HR1 := Lib.hid hr1; have HB1 := Lib.hid hb1; clear hr1 hf1 hb1)
    go_ret
    refine ⟨_, rfl, HB1.out, ?_⟩
    show World.ownsRow _ _ _ _ _ ps.length _
    rw [HN.out]
    exact HR1.out
end Go.Proofs.Ytgikmcgoaihggaa
