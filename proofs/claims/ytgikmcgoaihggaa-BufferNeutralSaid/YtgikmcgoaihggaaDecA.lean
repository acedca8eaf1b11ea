/- Decode of both, in one contract each; literals. -/
import Derived.Test.YtgikmcgoaihggaaDecE
import Derived.Test.YtgikmcgoaihggaaCropP
set_option linter.unusedVariables false
set_option linter.unusedSimpArgs false
namespace Go.Proofs.Ytgikmcgoaihggaa
open Go.RowKit

def decB (f bw bh st : Int) (zs : List Int) : Int × Int × List Px :=
  if decE f bw bh st zs.length = 0 then (bw, bh, decUp f st.toNat bw.toNat zs bh.toNat 0) else (0, 0, [])
theorem decode_nat {f bw bh st : Int} {n : Nat} (k : decE f bw bh st n = 0) : ∃ W H s : Nat, bw = W ∧ bh = H ∧ st = s ∧ (f = 1 ∨ f = 2) ∧ (1 ≤ W ∧ W ≤ 256) ∧ (1 ≤ H ∧ H ≤ 256) ∧ 4 * W ≤ s ∧ s % 4 = 0 ∧ s ≤ n / H := by
  obtain ⟨h1, h2, h3, h4, h5, h6⟩ := decE_zero k
  obtain ⟨W, rfl⟩ := Int.eq_ofNat_of_zero_le (show 0 ≤ bw by omega)
  obtain ⟨H, rfl⟩ := Int.eq_ofNat_of_zero_le (show 0 ≤ bh by omega)
  obtain ⟨s, rfl⟩ := Int.eq_ofNat_of_zero_le (show 0 ≤ st by omega)
  exact ⟨W, H, s, rfl, rfl, rfl, h1, by omega, by omega, by omega, by omega, by omega⟩
theorem bdecode_any (f bw bh st : Int) (A : Option Addr) (zs : List Int) (c : Nat) (w : World) (hst : st < 9223372036854775808) (hl : zs.length ≤ c ∧ c ≤ 9223372036854775807) (hr : Rd w .u8 A zs) (hz : ∀ z ∈ zs, 0 ≤ z ∧ z ≤ 255) :
    Calls Try.prog 14 #[.int .i64 f, .int .i64 bw, .int .i64 bh, .int .i64 st, .slice A zs.length c] w (BufE w (decB f bw bh st zs) (decE f bw bh st zs.length)) := by
  unfold decB
  by_cases k : decE f bw bh st zs.length = 0
  · rw [if_pos k, k]
    obtain ⟨W, H, s, rfl, rfl, rfl, hf, h1, h2, h3, h4, h5⟩ := decode_nat k
    simp only [Int.toNat_natCast]
    rcases hf with rfl | rfl
    · exact (bdecode_ok1 W H s A zs c w h1 h2 h3 h4 h5 hl hr hz).mono fun _ _ h => h
    · exact (bdecode_ok2 W H s A zs c w h1 h2 h3 h4 h5 hl hr hz).mono fun _ _ h => h
  · rw [if_neg k]
    refine (bdecode_bad f bw bh st A zs.length c w hst (by omega) k).mono ?_
    rintro e w' ⟨rfl, hb⟩
    exact ⟨_, rfl, hb, World.ownsRow_nil _ _ _ _⟩
theorem vdecode_any (f bw bh st : Int) (A : Option Addr) (zs : List Int) (c : Nat) (w : World) (hst : st < 9223372036854775808) (hl : zs.length ≤ c ∧ c ≤ 9223372036854775807) (hr : Rd w .u8 A zs) (hz : ∀ z ∈ zs, 0 ≤ z ∧ z ≤ 255) :
    Calls Try.prog 15 #[.int .i64 f, .int .i64 bw, .int .i64 bh, .int .i64 st, .slice A zs.length c] w (BufE w (decB f bw bh st zs) (decE f bw bh st zs.length)) := by
  unfold decB
  by_cases k : decE f bw bh st zs.length = 0
  · rw [if_pos k, k]
    obtain ⟨W, H, s, rfl, rfl, rfl, hf, h1, h2, h3, h4, h5⟩ := decode_nat k
    simp only [Int.toNat_natCast]
    rcases hf with rfl | rfl
    · exact (vdecode_ok1 W H s A zs c w h1 h2 h3 h4 h5 hl hr hz).mono fun _ _ h => h
    · exact (vdecode_ok2 W H s A zs c w h1 h2 h3 h4 h5 hl hr hz).mono fun _ _ h => h
  · rw [if_neg k]
    refine (vdecode_bad f bw bh st A zs.length c w hst (by omega) k).mono ?_
    rintro e w' ⟨rfl, hb⟩
    exact ⟨_, rfl, hb, World.ownsRow_nil _ _ _ _⟩
theorem rd_lit {w : World} {b : Nat} {e : TypeId} {zs : List Int} {k : IntKind} (h : Blk w b e (zs.map (Value.int k)).toArray) : Rd w k (some ⟨b, 0, none⟩) zs := by
  intro j hj
  refine ⟨b, 0, rfl, h.lt, ?_⟩
  rw [Nat.zero_add, h.cell j]
  simp [hj]
theorem rdp_lit {w : World} {b : Nat} {e : TypeId} {ps : List Px} (h : Blk w b e (pxCells ps).toArray) : Rdp w (some ⟨b, 0, none⟩) ps := by
  intro j hj
  obtain ⟨e0, e1, e2, e3⟩ := pxCells_get ps j hj
  refine ⟨b, 0, rfl, h.lt, ?_⟩
  rw [Nat.zero_add, h.cell, h.cell, h.cell, h.cell]
  simp only [List.getElem?_toArray]
  exact ⟨e0, e1, e2, e3⟩
end Go.Proofs.Ytgikmcgoaihggaa
