/- The buffer that Crop grows, in both. -/
import Derived.Test.YtgikmcgoaihggaaCropP
import Derived.Test.YtgikmcgoaihggaaBDec
set_option linter.unusedVariables false
set_option linter.unusedSimpArgs false
namespace Go.Proofs.Ytgikmcgoaihggaa
open Go.RowKit

/-- The part that grows, and the variables. -/
def CropI (w : World) (W H : Nat) (A : Value) (x0 y0 x1 y1 : Int) (tb : Nat) (ps : List Px) (wr : World) : Prop :=
  Below w.heap.size w wr ∧ tb < wr.heap.size ∧ Blk wr w.heap.size 27 #[.int .i64 W, .int .i64 H, A] ∧ Blk wr (w.heap.size + 1) 47 #[.int .i64 x0, .int .i64 y0, .int .i64 x1, .int .i64 y1] ∧
    Blk wr (w.heap.size + 1 + 1) 27 #[.int .i64 0, .int .i64 0, .slice none 0 0] ∧ ∃ v, Blk wr tb 27 #[.int .i64 (x1 - x0), .int .i64 (y1 - y0), v] ∧ OwnP wr (tb + 1) v ps
theorem CropI.step {w wr w6 w7 : World} {W H : Nat} {A : Value} {x0 y0 x1 y1 : Int} {tb : Nat} {l l' : List Px} {v7 : Value} {n : Nat} {cs : List Value} (hI : CropI w W H A x0 y0 x1 y1 tb l wr) (h6 : Below wr.heap.size wr w6) (hf : FrT (tb + 1) [43] w6 w7)
    (ho : w7.ownsRow (tb + 1) 43 4 v7 n cs) (hn : n = l'.length) (hc : cs = pxCells l') (ht : w.heap.size + 1 + 1 < tb) : CropI w W H A x0 y0 x1 y1 tb l' (w7.setCell ⟨tb, 2, none⟩ v7) := by
  subst hn
  subst hc
  obtain ⟨hB, hz, K0, K1, K2, v, K3, _⟩ := hI
  have h6z := h6.size
  have B7 : ∀ {i : Nat} {e : TypeId} {cs : Array Value}, Blk wr i e cs → i < tb + 1 → Blk w7 i e cs := fun hb hi => hf.blk (Blk.below h6 hb) (.inl hi)
  have K7 := B7 K3 (by omega)
  refine ⟨?_, ?_, (B7 K0 (by omega)).other (by simp; omega) _, (B7 K1 (by omega)).other (by simp; omega) _, (B7 K2 (by omega)).other (by simp; omega) _, v7, K7.set 2 _, ?_⟩
  · exact ((bon hB hB.size h6).trans ((hf.toBelow (by omega)).mono (by omega))).setCell (by simp; omega) _
  · simp [World.setCell]; exact Nat.lt_of_lt_of_le (by omega) hf.size
  · have f3 : FrT 0 [27] w7 (w7.setCell ⟨tb, 2, none⟩ v7) := (FrT.refl 0 [27] w7).set K7 rfl (Nat.zero_le _) _
    exact f3.row ho (.inl rfl)
end Go.Proofs.Ytgikmcgoaihggaa
