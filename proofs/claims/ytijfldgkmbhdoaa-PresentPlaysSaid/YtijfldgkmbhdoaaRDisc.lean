/- The reference's Discard. -/
import Derived.Test.YtijfldgkmbhdoaaDisc
import Derived.Test.YtijfldgkmbhdoaaRCom
import Derived.Deep.RegionLaw
set_option linter.unusedVariables false
set_option linter.unusedSimpArgs false
namespace Go.Proofs.Ytijfldgkmbhdoaa
open Go.RowKit
attribute [local go_sem ↓] Go.wp_at_zero Go.wp_at_succ

def RDiscarded (w : World) (md : Bool) (iv last s : Int) (its : List Itm) (e : Ending) (w' : World) : Prop :=
  ∃ qv v, e = .returned (.tuple #[rclk md iv last qv, v]) ∧ Below w.heap.size w w' ∧ Que w' 0 87 qv (keptOf s its) ∧ U32s w' 0 v (goneOf s its)
theorem que_kept {w : World} {s : Int} {qv rv : Value} {its : List Itm} (k : Que w 0 87 qv its) (r : w.ownsRow 0 87 2 rv (keptOf s its).length (itCells (keptOf s its))) : Que w 0 87 rv (keptOf s its) := by
  have hsub : ∀ x ∈ keptOf s its, x ∈ its := fun x hx => (List.mem_filter.1 hx).1
  exact ⟨r, fun x hx => k.cbs x (hsub x hx), Nat.le_trans (List.length_filter_le _ _) k.len, fun x hx => k.clen x (hsub x hx), fun x hx => k.srng x (hsub x hx)⟩
theorem gone_rng {w : World} {s : Int} {B : Nat} {t : TypeId} {qv : Value} {its : List Itm} (k : Que w B t qv its) : ∀ z ∈ goneOf s its, 0 ≤ z ∧ z < 4294967296 := by
  intro z hz
  unfold goneOf at hz
  obtain ⟨x, hx, hz⟩ := List.mem_flatMap.1 hz
  exact (k.cbs x (List.mem_filter.1 hx).1).rng z hz
set_option maxRecDepth 100000 in
set_option maxHeartbeats 4000000 in
theorem rdiscard_ok (md : Bool) (iv last s : Int) (qv : Value) (its : List Itm) (w : World) (k : Que w 0 87 qv its) :
    Calls Try.prog 28 #[rclk md iv last qv, .int .i64 s] w (RDiscarded w md iv last s its) := by
  obtain ⟨qa, qc, hq, hqc, _⟩ := slice_len k.row
  subst hq
  obtain ⟨n, hnl⟩ : ∃ n, its.length = n := ⟨_, rfl⟩
  have hn256 := k.len
  rw [hnl] at hn256 ⊢
  have HK := Lib.hid k
  have HNL := Lib.hid hnl
  clear k hnl
  go_enter Try.func28, Try.ntmps28
  go_wp2
  generalize hW : World.alloc (World.alloc _ _) _ = W
  have hzW : W.heap.size = w.heap.size + 1 + 1 + 1 := by subst hW; simp
  have hB0 : Below w.heap.size w W := by subst hW; (with_reducible repeat (first | assumption | exact Below.refl _ _ | refine Below.setCell ?_ (by first | omega | (simp; done) | (simp; omega)) _ | refine Below.drew ?_ | refine bdrewN ?_ _ | refine Below.alloc ?_ (by first | omega | (simp; done) | (simp; omega)) _))
  have K2 : Blk W w.heap.size 57 #[.bool md, .int .i64 iv, .int .i64 last, .slice qa n qc] := by subst hW; (with_reducible repeat (first | assumption | (refine Blk.newAt ?_; first | rfl | (simp; done)) | refine Blk.alloc ?_ _ | refine Blk.drew ?_ | refine Blk.other ?_ (by simp) _))
  have K4 : Blk W (w.heap.size + 1) 57 #[.bool false, .int .i64 0, .int .i64 0, .slice none 0 0] := by subst hW; (with_reducible repeat (first | assumption | (refine Blk.newAt ?_; first | rfl | (simp; done)) | refine Blk.alloc ?_ _ | refine Blk.drew ?_ | refine Blk.other ?_ (by simp) _))
  have K6 : Blk W (w.heap.size + 1 + 1) 57 #[.bool md, .int .i64 iv, .int .i64 last, .slice none 0 0] := by subst hW; (with_reducible repeat (first | assumption | (refine Blk.newAt ?_; first | rfl | (simp; done)) | refine Blk.alloc ?_ _ | refine Blk.drew ?_ | refine Blk.other ?_ (by simp) _))
  clear hW
  have HK2 := Lib.hid K2
  have HZW := Lib.hid hzW
  have hzw1 : w.heap.size < W.heap.size := by omega
  have hzw2 : w.heap.size + 1 < W.heap.size := by omega
  have hzw3 : w.heap.size + 1 + 1 < W.heap.size := by omega
  go_loopg [7, 8] n (fun kk s7 s8 wr => ∃ (j : Nat) (rv : Value), kk = n - j ∧ j ≤ n ∧ s8 = .int .i64 j ∧ Below w.heap.size w wr ∧ W.heap.size ≤ wr.heap.size ∧ Blk wr w.heap.size 57 #[.bool md, .int .i64 iv, .int .i64 last, .slice qa n qc] ∧ Blk wr (w.heap.size + 1) 57 #[.bool false, .int .i64 0, .int .i64 0, .slice none 0 0] ∧ Blk wr (w.heap.size + 1 + 1) 57 #[.bool md, .int .i64 iv, .int .i64 last, rv] ∧ wr.ownsRow W.heap.size 42 1 s7 (goneOf s (its.take j)).length ((goneOf s (its.take j)).map (Value.int .u32)) ∧ wr.ownsRow W.heap.size 87 2 rv (keptOf s (its.take j)).length (itCells (keptOf s (its.take j))))
  case atStart => exact ⟨0, _, by omega, by omega, by first | rfl | simp, hB0, Nat.le_refl _, K2, K4, K6, World.ownsRow_nil _ _ _ _, World.ownsRow_nil _ _ _ _⟩
  clear K2 K4 K6 hzW
  case round =>
    obtain ⟨j, rv, hk, hj, rfl, hB, hz, K2, K4, K6, hO, hR⟩ := hrel
    have K := (HK.out).below hB
    obtain ⟨⟨c0, _⟩, ⟨c1, _⟩, ⟨c2, _⟩, c3, _⟩ := K2.c4
    obtain ⟨⟨d0, _⟩, ⟨d1, _⟩, ⟨d2, _⟩, d3, g3⟩ := K6.c4
    have HK2' := Lib.hid K2
    have HK4' := Lib.hid K4
    have HK6' := Lib.hid K6
    have HBr := Lib.hid hB
    by_cases hlt : j < n
    · obtain ⟨g, cap, hqf, _, _, _, hcl⟩ := K.form (by rw [HNL.out]; omega)
      obtain ⟨g', cap', hqf', _, _, hgl, _⟩ := HK.out.form (by rw [HNL.out]; omega)
      have hgg : g = g' := by have h := hqf.symm.trans hqf'; simp only [Value.slice.injEq, Option.some.injEq, Addr.mk.injEq] at h; exact h.1.1
      subst hgg
      clear hqf'
      obtain ⟨q0, q1, _⟩ := hcl j (by rw [HNL.out]; omega)
      have hmem : its[j]'(by rw [HNL.out]; omega) ∈ its := List.getElem_mem _
      have U2 := K.cbs _ hmem
      have hc256 := HK.out.clen _ hmem
      have hX : its[j]? = some (its[j]'(by rw [HNL.out]; omega)) := List.getElem?_eq_getElem _
      obtain ⟨X, hXe⟩ : ∃ X, its[j]'(by rw [HNL.out]; omega) = X := ⟨_, rfl⟩
      rw [hXe] at q0 q1 U2 hc256 hX
      obtain ⟨xs, xv, xc⟩ := X
      simp only at q0 q1 U2 hc256
      obtain ⟨xa, xk, hxv, _, _⟩ := slice_len U2.row
      subst hxv
      simp only [Value.slice.injEq] at hqf
      obtain ⟨rfl, _, rfl⟩ := hqf
      obtain ⟨oa, oc, hoe, _, _⟩ := slice_len hO
      subst hoe
      obtain ⟨ra, rc, hre, _, _⟩ := slice_len hR
      subst hre
      obtain ⟨m, hm⟩ : ∃ m, xc.length = m := ⟨_, rfl⟩
      obtain ⟨on, hon⟩ : ∃ m, (goneOf s (its.take j)).length = m := ⟨_, rfl⟩
      obtain ⟨rn, hrn⟩ : ∃ m, (keptOf s (its.take j)).length = m := ⟨_, rfl⟩
      have hgl2 := goneOf_length s its HK.out.clen j (by rw [HNL.out]; omega)
      have hkl2 := keptOf_length s its j
      have hO' := hO
      have hR' := hR
      rw [hon] at hO' hgl2
      rw [hrn] at hR' hkl2 d3
      have hS : Src wr 1 (.slice xa m xk) m (xc.map (Value.int .u32)) := by have := U2.src; rw [hm] at this; exact this
      have hk1 := keptOf_succ (s := s) hX
      have hg1 := goneOf_succ (s := s) hX
      simp only at hk1 hg1
      rw [hm] at q1 hc256
      have HO := Lib.hid hO'
      have HR := Lib.hid hR'
      have HS := Lib.hid hS
      have HM := Lib.hid hm
      have HON := Lib.hid hon
      have HRN := Lib.hid hrn
      rw [hon]
      clear hX hXe U2 hm hO hR hO' hR' hS hon hrn hcl hmem K K2 K4 K6 hB hB0
      have hw1 : w.heap.size < wr.heap.size := by omega
      have hgr : g < wr.heap.size := by omega
      have hgw : g < W.heap.size := by omega
      have hw2 : w.heap.size + 1 < wr.heap.size := by omega
      have hw3 : w.heap.size + 1 + 1 < wr.heap.size := by omega
      by_cases hxs : xs = s
      · subst hxs
        rw [if_pos rfl] at hk1 hg1
        have HK1 := Lib.hid hk1
        have HG1 := Lib.hid hg1
        clear hk1 hg1
        go_wp2_with (at_builtin; refine wpList_app _ [42] rfl el_u32 (.tmp 26) (.tmp 32) rfl W.heap.size (.slice oa on oc) on ((goneOf xs (its.take j)).map (Value.int .u32)) rfl HO.out (.slice xa m xk) m (xc.map (Value.int .u32)) rfl HS.out (by omega) (by decide) (by omega) rfl ?_; intro v1 w1 hr1 hf1; have HR1 := Lib.hid hr1; have HF1 := Lib.hid hf1; clear hr1 hf1)
        obtain ⟨a1, e1, hv1, _, _⟩ := slice_len HR1.out
        subst hv1
        go_roundg (n - (j + 1))
        case measure => omega
        case rel =>
          have hmm := HM.out
          subst hmm
          refine ⟨j + 1, _, by omega, by omega, by first | rfl | simp, HBr.out.trans ((HF1.out.toBelow hz).mono (by omega)), Nat.le_trans hz HF1.out.size, HF1.out.blk HK2'.out (.inr rfl), HF1.out.blk HK4'.out (.inr rfl), HF1.out.blk HK6'.out (.inr rfl), ?_, ?_⟩
          · rw [HG1.out, List.map_append, List.length_append, HON.out]
            exact HR1.out
          · rw [HK1.out, HRN.out]
            exact HF1.out.row HR.out (.inl rfl)
      · have hxs1 : (xs == s) = false := by simpa using hxs
        rw [if_neg hxs] at hk1 hg1
        have HK1 := Lib.hid hk1
        have HG1 := Lib.hid hg1
        clear hk1 hg1
        go_wp2_with fail
        have hgn : g ≠ w.heap.size + 1 + 1 := by omega
        have hgn' : w.heap.size + 1 + 1 ≠ g := by omega
        go_region_law
          ((refine step_app _ [87] rfl el_item (.tmp 35) (.tmp 41) rfl W.heap.size (.slice ra rn rc) rn (itCells (keptOf s (its.take j))) rfl (HR.out.drew.alloc _) (.slice (some ⟨wr.heap.size, 0, none⟩) 1 1) 1 [.int .i64 xs, .slice xa m xk] rfl (Src.two (by simp) rfl rfl) (by omega) (by decide) (by simp; omega) rfl ?_; intro v1 w1 hr1 hf1; have hbx : Below W.heap.size wr w1 := (((Below.refl _ _).drew).alloc (by simp; omega) _).trans (hf1.toBelow (by simp; omega)); have c3n := (hbx.cell (p := ⟨w.heap.size, 3, none⟩) (by omega)).trans c3; have d3n := (hbx.cell (p := ⟨w.heap.size + 1 + 1, 3, none⟩) (by omega)).trans d3; have g3n := (hbx.frozen (p := ⟨w.heap.size + 1 + 1, 3, none⟩) (by omega)).trans g3; have q0n := (hbx.cell (p := ⟨g, j * 2, none⟩) (by omega)).trans q0; have q1n := (hbx.cell (p := ⟨g, j * 2 + 1, none⟩) (by omega)).trans q1; have HR1 := Lib.hid hr1; have HF1 := Lib.hid hf1; have HX1 := Lib.hid hbx; obtain ⟨a1, e1, hv1, _, _⟩ := slice_len hr1; subst hv1; clear hr1 hf1 hbx))
        all_goals
          have hmm := HM.out
          subst hmm
          have K2n := HF1.out.blk (HK2'.out.drew.alloc _) (.inr rfl)
          have K4n := HF1.out.blk (HK4'.out.drew.alloc _) (.inr rfl)
          have K6n := HF1.out.blk (HK6'.out.drew.alloc _) (.inr rfl)
          have f3 : FrT 0 [57] w1 (w1.setCell ⟨w.heap.size + 1 + 1, 3, none⟩ (.slice a1 (rn + 1) e1)) := (FrT.refl 0 [57] w1).set K6n rfl (Nat.zero_le _) _
          have HK2n := Lib.hid (K2n.other (p := ⟨w.heap.size + 1 + 1, 3, none⟩) (by simp; omega) (.slice a1 (rn + 1) e1))
          have HK4n := Lib.hid (K4n.other (p := ⟨w.heap.size + 1 + 1, 3, none⟩) (by simp) (.slice a1 (rn + 1) e1))
          have HK6n := Lib.hid (K6n.set 3 (.slice a1 (rn + 1) e1))
          have HF3 := Lib.hid f3
          clear K2n K4n K6n f3
          go_wp2
          go_roundg (n - (j + 1))
          case measure => omega
          case rel =>
            refine ⟨j + 1, _, by omega, by omega, by first | rfl | simp, (HBr.out.trans (HX1.out.mono (by omega))).setCell (by simp; omega) _, Nat.le_trans (Nat.le_trans hz HX1.out.size) HF3.out.size, HK2n.out, HK4n.out, HK6n.out, ?_, ?_⟩
            · rw [HG1.out, HON.out]
              exact HF3.out.row (HF1.out.row (HO.out.drew.alloc _) (.inl rfl)) (.inl rfl)
            · rw [HK1.out, itCells_append, List.length_append, HRN.out]
              exact HF3.out.row HR1.out (.inl rfl)
    · obtain rfl : n = j := by omega
      obtain ⟨oa, oc, hoe, _, _⟩ := slice_len hO
      subst hoe
      obtain ⟨ra, rc, hre, _, _⟩ := slice_len hR
      subst hre
      obtain ⟨on, hon⟩ : ∃ m, (goneOf s (its.take n)).length = m := ⟨_, rfl⟩
      obtain ⟨rn, hrn⟩ : ∃ m, (keptOf s (its.take n)).length = m := ⟨_, rfl⟩
      have HO := Lib.hid hO
      have HR := Lib.hid hR
      rw [hrn] at d3
      rw [hon]
      obtain ⟨⟨a0, b0⟩, ⟨a1, b1⟩, ⟨a2, b2⟩, a3, b3⟩ := K4.c4
      have HON := Lib.hid hon
      have HRN := Lib.hid hrn
      clear hO hR K hon hrn K2 K4 K6 hB hB0
      have hw1 : w.heap.size < wr.heap.size := by omega
      have hw2 : w.heap.size + 1 < wr.heap.size := by omega
      have hw3 : w.heap.size + 1 + 1 < wr.heap.size := by omega
      go_wp2_with fail
      obtain ⟨KE, FE⟩ := HK4'.out.set4 (.bool md) (.int .i64 iv) (.int .i64 last) (.slice ra rn rc)
      have hB := HBr.out
      have hon := HON.out
      have hrn := HRN.out
      have hO := HO.out
      have hR := HR.out
      have hK := HK.out
      rw [List.take_of_length_le (by rw [HNL.out]; omega)] at hO hR hon hrn
      subst hon
      subst hrn
      (try simp only [Exit.inBlock, Exit.then]); refine bodyPost_ret (results_ct rfl _ KE rfl Try.underlying57 rfl (by kernel_rfl)) rfl ?_
      exact ⟨_, _, rfl, by (with_reducible repeat (first | assumption | exact Below.refl _ _ | refine Below.setCell ?_ (by first | omega | (simp; done) | (simp; omega)) _ | refine Below.drew ?_ | refine bdrewN ?_ _ | refine Below.alloc ?_ (by first | omega | (simp; done) | (simp; omega)) _)), que_kept ((hK.below hB).carry FE ⟨rfl, rfl⟩) (ownsRow_mono (FE.row hR (.inl rfl)) (Nat.zero_le _)), ⟨ownsRow_mono (FE.row hO (.inl rfl)) (Nat.zero_le _), gone_rng hK⟩⟩
end Go.Proofs.Ytijfldgkmbhdoaa
