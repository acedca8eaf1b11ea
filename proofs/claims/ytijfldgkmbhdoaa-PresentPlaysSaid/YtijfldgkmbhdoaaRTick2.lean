/- The reference's Tick at a blank. (DRAFT, under way.) -/
import Derived.Test.YtijfldgkmbhdoaaRTick
import Derived.IntWalk
import Derived.Deep.RegionLaw
set_option linter.unusedVariables false
set_option linter.unusedSimpArgs false
namespace Go.Proofs.Ytijfldgkmbhdoaa
open Go.RowKit
attribute [local go_sem ↓] Go.wp_at_zero Go.wp_at_succ

def RTicked (w : World) (iv now bl : Int) (its : List Itm) (e : Ending) (w' : World) : Prop :=
  ∃ v, e = .returned (.tuple #[rclk true iv now (.slice none 0 0), v]) ∧ Below w.heap.size w w' ∧ w'.ownsRow w.heap.size 48 9 v (tickOut iv bl its).length (dlCells (tickOut iv bl its))
set_option maxRecDepth 100000 in
set_option maxHeartbeats 4000000 in
theorem rtick_go (iv last t : Int) (qv : Value) (its : List Itm) (w : World) (k : Que w 0 87 qv its) (hi : 1 ≤ iv ∧ iv ≤ 1000000000) (hlr : 0 ≤ last ∧ last ≤ 4611686018427387904) (ht : -9223372036854775808 ≤ t ∧ t < 9223372036854775808) (hl : last < clampT t) (hx : nxt iv last ≤ clampT t) :
    Calls Try.prog 31 #[rclk true iv last qv, .int .i64 t] w (RTicked w iv (clampT t) (nxt iv last) its) := by
  obtain ⟨qa, qc, hq, _, _⟩ := slice_len k.row
  subst hq
  obtain ⟨n, hnl⟩ : ∃ n, its.length = n := ⟨_, rfl⟩
  have hn256 := k.len
  rw [hnl] at hn256 ⊢
  have hnn := nxt_rng last hi
  have hcl := clampT_rng last
  have hC := fun W => rlimit_any t W ht
  have hN := fun W => rnext_ok iv last last qa n qc W hi (by omega)
  generalize clampT t = ct at *
  generalize nxt iv last = bl at *
  have hbl : 0 ≤ bl ∧ bl ≤ 4611686018427387904 + 1000000000 := ⟨by omega, by omega⟩
  have hq0 : 0 ≤ bl / iv := Int.ediv_nonneg hbl.1 (by omega)
  have hq1 : bl / iv ≤ bl := Int.ediv_le_self _ hbl.1
  have e1 : IntKind.i64.wrap (bl.tdiv 1000000) = bl / 1000000 := by rw [Int.tdiv_eq_ediv_of_nonneg hbl.1]; exact Go.IntWalk.i64_in _ (by omega)
  have e3 : IntKind.i64.wrap (bl.tdiv 1000) = bl / 1000 := by rw [Int.tdiv_eq_ediv_of_nonneg hbl.1]; exact Go.IntWalk.i64_in _ (by omega)
  have e4 : IntKind.i64.wrap (bl.tdiv iv) = bl / iv := by rw [Int.tdiv_eq_ediv_of_nonneg hbl.1]; exact Go.IntWalk.i64_in _ (by omega)
  have HE1 := Lib.hid e1
  have HE3 := Lib.hid e3
  have HE4 := Lib.hid e4
  clear e1 e3 e4 hq0 hq1
  have HC := Lib.hid hC
  have HNX := Lib.hid hN
  have HK := Lib.hid k
  have HNL := Lib.hid hnl
  clear hC hN k hnl
  go_enter Try.func31, Try.ntmps31
  go_wp2_with (first | (go_at_call 48; refine (HC.out _).mono ?_; rintro e w' ⟨rfl, rfl⟩) | (go_at_call 35; refine (HNX.out _).mono ?_; rintro e w1 ⟨rfl, hb_w1⟩; have hz1 := hb_w1.size; simp at hz1; have hB1 : Below w.heap.size w w1 := bon (by (with_reducible repeat (first | assumption | exact Below.refl _ _ | refine Below.setCell ?_ (by first | omega | (simp; done) | (simp; omega)) _ | refine Below.drew ?_ | refine bdrewN ?_ _ | refine Below.alloc ?_ (by first | omega | (simp; done) | (simp; omega)) _))) (by simp; try omega) hb_w1; have K4 : Blk w1 (w.heap.size + 1) 57 #[.bool false, .int .i64 0, .int .i64 0, .slice none 0 0] := Blk.below hb_w1 (by (with_reducible repeat (first | assumption | (refine Blk.newAt ?_; first | rfl | (simp; done)) | refine Blk.alloc ?_ _ | refine Blk.drew ?_ | refine Blk.other ?_ (by simp) _))); have K2 : Blk w1 (w.heap.size) 57 #[.bool true, .int .i64 iv, .int .i64 last, .slice qa n qc] := Blk.below hb_w1 (by (with_reducible repeat (first | assumption | (refine Blk.newAt ?_; first | rfl | (simp; done)) | refine Blk.alloc ?_ _ | refine Blk.drew ?_ | refine Blk.other ?_ (by simp) _))); have K6 : Blk w1 (w.heap.size + 1 + 1) 57 #[.bool true, .int .i64 iv, .int .i64 ct, .slice qa n qc] := Blk.below hb_w1 (by (with_reducible repeat (first | assumption | (refine Blk.newAt ?_; first | rfl | (simp; done)) | refine Blk.alloc ?_ _ | refine Blk.drew ?_ | refine Blk.other ?_ (by simp) _))); obtain ⟨⟨c0, f0⟩, ⟨c1, f1⟩, ⟨c2, f2⟩, c3, f3⟩ := K4.c4; obtain ⟨⟨d0, g0⟩, ⟨d1, g1⟩, ⟨d2, g2⟩, d3, g3⟩ := K6.c4; obtain ⟨⟨e0, h0⟩, ⟨e1, h1⟩, ⟨e2, h2⟩, e3, h3⟩ := K2.c4; clear hb_w1))
  have M2 := K2.other (p := ⟨w.heap.size + 1 + 1, 3, none⟩) (by simp; omega) (.slice none 0 0)
  have M4 := K4.other (p := ⟨w.heap.size + 1 + 1, 3, none⟩) (by simp) (.slice none 0 0)
  have M6 := K6.set 3 (.slice none 0 0)
  have hB3 : Below w.heap.size w (w1.setCell ⟨w.heap.size + 1 + 1, 3, none⟩ (.slice none 0 0)) := by (with_reducible repeat (first | assumption | exact Below.refl _ _ | refine Below.setCell ?_ (by first | omega | (simp; done) | (simp; omega)) _ | refine Below.drew ?_ | refine bdrewN ?_ _ | refine Below.alloc ?_ (by first | omega | (simp; done) | (simp; omega)) _))
  generalize w1.setCell ⟨w.heap.size + 1 + 1, 3, none⟩ (.slice none 0 0) = w3 at *
  have HM2 := Lib.hid M2
  have HM4 := Lib.hid M4
  have HM6 := Lib.hid M6
  have HQ := Lib.hid (HK.out.below hB3)
  have HB3 := Lib.hid hB3
  clear M2 M4 M6 K2 K4 K6 c0 f0 c1 f1 c2 f2 c3 f3 d0 g0 d1 g1 d2 g2 d3 g3 e0 h0 e1 h1 e2 h2 e3 h3 hB1 hB3 HC HNX
  go_loopg [8, 9] n (fun k s8 s9 wr => ∃ (j : Nat), k = n - j ∧ j ≤ n ∧ s9 = .int .i64 j ∧ Below w3.heap.size w3 wr ∧ wr.ownsRow w3.heap.size 48 9 s8 (tickUpto iv bl its j).length (dlCells (tickUpto iv bl its j)))
  case atStart => exact ⟨0, by omega, by omega, by first | rfl | simp, Below.refl _ _, World.ownsRow_nil _ _ _ _⟩
  case round =>
    obtain ⟨j, hk, hj, rfl, hB, hO⟩ := hrel
    have K := HQ.out.below hB
    obtain ⟨⟨r0, _⟩, ⟨r1, _⟩, ⟨r2, _⟩, r3, _⟩ := (Blk.below hB HM2.out).c4
    obtain ⟨oa, oc, hoe, _, _⟩ := slice_len hO
    subst hoe
    have HO := Lib.hid hO
    obtain ⟨L, hL⟩ : ∃ L, (tickUpto iv bl its j).length = L := ⟨_, rfl⟩
    have hlen := tickUpto_length iv bl its HK.out.clen j (by rw [HNL.out]; omega)
    have hO' := hO
    rw [hL] at hO' hlen
    have HO' := Lib.hid hO'
    have HL := Lib.hid hL
    rw [hL]
    have hzr := hB.size
    clear hO hO' hL
    by_cases hlt : j < n
    · obtain ⟨g, cap, hqf, _, _, hgl, hcl⟩ := K.form (by rw [HNL.out]; omega)
      obtain ⟨q0, q1, _⟩ := hcl j (by rw [HNL.out]; omega)
      have hmem : its[j]'(by rw [HNL.out]; omega) ∈ its := List.getElem_mem _
      have U2 := HQ.out.cbs _ hmem
      have hc256 := HK.out.clen _ hmem
      have hsr := HK.out.srng _ hmem
      have e1 : its.getD j ⟨0, undef, []⟩ = its[j]'(by rw [HNL.out]; omega) := by simp [HNL.out, hlt]
      rw [← e1] at q0 q1 U2 hc256 hsr
      clear e1 hcl hmem
      obtain ⟨X, hX⟩ : ∃ X, its.getD j ⟨0, undef, []⟩ = X := ⟨_, rfl⟩
      rw [hX] at q0 q1 U2 hc256 hsr
      obtain ⟨xs, xv, xc⟩ := X
      simp only at q0 q1 U2 hc256 hsr
      obtain ⟨xa, xk, hxv, _, _⟩ := slice_len U2.row
      subst hxv
      simp only [Value.slice.injEq] at hqf
      obtain ⟨rfl, _, rfl⟩ := hqf
      obtain ⟨m, hm⟩ : ∃ m, xc.length = m := ⟨_, rfl⟩
      rw [hm] at q1 hc256
      have HX := Lib.hid hX
      have HU2 := Lib.hid U2
      have HM := Lib.hid hm
      have HKr := Lib.hid K
      clear hX U2 hm K
      obtain ⟨wo, rfl⟩ : ∃ wo : World, wo = wr := ⟨_, rfl⟩
      have hO0 : (wo.alloc (.cells #[.int .i64 xs, .slice xa m xk] 87)).ownsRow w3.heap.size 48 9 (.slice oa L oc) (tickUpto iv bl its j ++ (xc.take 0).map (fun z => (⟨xs, 19, bl / 1000000, z⟩ : Dl))).length (dlCells (tickUpto iv bl its j ++ (xc.take 0).map (fun z => ⟨xs, 19, bl / 1000000, z⟩))) := by
        rw [List.take_zero, List.map_nil, List.append_nil, HL.out]
        exact HO'.out.alloc _
      have HO0 := Lib.hid hO0
      clear hO0
      go_wp2
      go_loopg [8, 11] m (fun k s8 s11 wx => ∃ q : Nat, k = m - q ∧ q ≤ m ∧ s11 = .int .i64 q ∧ Below w3.heap.size w3 wx ∧ wo.heap.size < wx.heap.size ∧ Blk wx wo.heap.size 87 #[.int .i64 xs, .slice xa m xk] ∧ wx.ownsRow w3.heap.size 48 9 s8 (tickUpto iv bl its j ++ (xc.take q).map (fun z => (⟨xs, 19, bl / 1000000, z⟩ : Dl))).length (dlCells (tickUpto iv bl its j ++ (xc.take q).map (fun z => ⟨xs, 19, bl / 1000000, z⟩))))
      case atStart => exact ⟨0, by omega, by omega, by first | rfl | simp, hB.alloc hB.size _, by simp, Blk.new _ _ _, HO0.out⟩
      case round =>
        obtain ⟨q, hk2, hq, rfl, hBx, hzx, KX, hOx⟩ := hrel
        obtain ⟨⟨x0, _⟩, x1, _⟩ := KX.c2
        have HKX := Lib.hid KX
        have HBX := Lib.hid hBx
        obtain ⟨l, hl⟩ : ∃ l, (tickUpto iv bl its j ++ (xc.take q).map (fun z => (⟨xs, 19, bl / 1000000, z⟩ : Dl))).length = l := ⟨_, rfl⟩
        have hll : l ≤ n * 257 + 256 := by rw [← hl, List.length_append, HL.out, List.length_map, List.length_take]; omega
        obtain ⟨ya, yc, hye, _, _⟩ := slice_len hOx
        subst hye
        rw [hl] at hOx
        rw [hl]
        have HOX := Lib.hid hOx
        have HLL := Lib.hid hl
        clear hOx KX hl
        by_cases hltq : q < m
        · obtain ⟨ga, hga, hgal, hgc⟩ := HU2.out.form (by rw [HM.out]; omega)
          have y0 := hgc q (by rw [HM.out]; omega)
          replace y0 := (hBx.cell (p := ⟨ga, q, none⟩) hgal).trans y0
          have yr := HU2.out.rng _ (List.getElem_mem (by rw [HM.out]; omega : q < xc.length))
          obtain ⟨z, hz⟩ : ∃ z, xc[q]'(by rw [HM.out]; omega) = z := ⟨_, rfl⟩
          rw [hz] at y0 yr
          have HZ := Lib.hid hz
          clear hz hgc
          subst hga
          go_wp2_with fail
          have hz3 : w3.heap.size ≤ wr.heap.size := hBx.size
          have hA1 : l + 1 ≤ 1000000 := by omega
          have e1 := HE1.out
          have e2 : IntKind.i64.wrap z = z := Go.IntWalk.i64_in _ (by omega)
          go_region_law ((refine step_app _ [48] rfl el_del (.tmp 55) (.tmp 67) rfl w3.heap.size (.slice ya l yc) l (dlCells (tickUpto iv bl its j ++ (xc.take q).map (fun z => (⟨xs, 19, bl / 1000000, z⟩ : Dl)))) rfl (HOX.out.drew.alloc _) (.slice (some ⟨wr.heap.size, 0, none⟩) 1 1) 1 (dlCell ⟨xs, 19, bl / 1000000, z⟩) rfl (Src.blk (cs := (dlCell ⟨xs, 19, bl / 1000000, z⟩).toArray) (Blk.newAt rfl) rfl (by simp [dlCell, Value.oneCell']) 1) hA1 (by decide) (by simp; exact Nat.le_succ_of_le hz3) rfl ?_; intro v1 w1 hr1 hf1; have hb1 : Below w3.heap.size wr w1 := (((Below.refl _ _).drew).alloc (by simpa using hz3) _).trans (hf1.toBelow (by simp; exact Nat.le_succ_of_le hz3)); have hz1 := hb1.size; have HB1 := Lib.hid hb1; have HR1 := Lib.hid hr1; have HKN := Lib.hid (hf1.blk (HKX.out.drew.alloc _) (.inr rfl)); clear hr1 hf1 hb1))
          all_goals
            clear e1 e2
            go_wp2_with fail
            go_roundg (m - (q + 1))
            case measure => omega
            case rel =>
              have e : xc.take (q + 1) = xc.take q ++ [z] := by rw [List.take_add_one, List.getElem?_eq_getElem (by rw [HM.out]; omega), HZ.out]; rfl
              refine ⟨q + 1, by omega, by omega, by first | rfl | simp, HBX.out.trans HB1.out, by omega, HKN.out, ?_⟩
              rw [e, List.map_append, ← List.append_assoc, dlCells_append, List.length_append, HLL.out]
              exact HR1.out
        · obtain rfl : m = q := by omega
          have hql := HLL.out
          rw [List.take_of_length_le (by rw [HM.out]; omega)] at hql
          have hox := HOX.out
          rw [List.take_of_length_le (by rw [HM.out]; omega)] at hox
          have HQL := Lib.hid hql
          have HOL := Lib.hid hox
          clear hql hox
          have M2 := Blk.below hBx HM2.out
          obtain ⟨⟨m0, _⟩, ⟨m1, _⟩, ⟨m2, _⟩, m3, _⟩ := M2.c4
          obtain ⟨sb, hsb⟩ : ∃ b, supB its j = b := ⟨_, rfl⟩
          have hS := rsuperseded_ok true 0 iv last _ its wr (HQ.out.below hBx) j (by rw [HNL.out]; omega)
          rw [hsb, HNL.out] at hS
          have HSB := Lib.hid hsb
          have HS := Lib.hid hS
          have hzx0 : w3.heap.size ≤ wr.heap.size := hBx.size
          have hA1 : l + 1 ≤ 1000000 := by omega
          clear hS hsb M2
          cases sb with
          | true =>
            go_wp2_with fail
            refine (HS.out).mono ?_; rintro e wy ⟨rfl, hby⟩
            have HRy := Lib.hid ((FrT.ofBelow hby 0 []).row HOL.out (.inl rfl))
            obtain ⟨⟨y0, _⟩, y1, _⟩ := (Blk.below hby HKX.out).c2
            have hBy : Below w3.heap.size w3 wy := bon HBX.out HBX.out.size hby
            have hzy : w3.heap.size ≤ wy.heap.size := hBy.size
            have HBY := Lib.hid hBy
            clear hby hBy
            go_wp2_with (at_builtin; refine wpList_app _ [48] rfl el_del (.tmp 72) (.tmp 76) rfl w3.heap.size (.slice ya l yc) l (dlCells (tickUpto iv bl its j ++ xc.map (fun z => (⟨xs, 19, bl / 1000000, z⟩ : Dl)))) rfl (HRy.out.alloc _) (.slice (some ⟨wy.heap.size, 0, none⟩) 1 1) 1 (dlCell ⟨xs, 23, 0, 0⟩) rfl (Src.blk (cs := (dlCell ⟨xs, 23, 0, 0⟩).toArray) (Blk.newAt rfl) rfl (by simp [dlCell, Value.oneCell']) 1) hA1 (by decide) (by simp; exact Nat.le_succ_of_le hzy) rfl ?_; intro v1 w1 hr1 hf1; have hb1 : Below w3.heap.size wy w1 := ((Below.refl _ _).alloc hzy _).trans (hf1.toBelow (by simp; exact Nat.le_succ_of_le hzy)); have HB1 := Lib.hid hb1; have HR1 := Lib.hid hr1; clear hr1 hf1 hb1)
            go_roundg (n - (j + 1))
            case measure => omega
            case rel =>
              refine ⟨j + 1, by omega, by omega, by first | rfl | simp, HBY.out.trans HB1.out, ?_⟩
              have e : itemOut iv bl its j = xc.map (fun z => (⟨xs, 19, bl / 1000000, z⟩ : Dl)) ++ [⟨xs, 23, 0, 0⟩] := by unfold itemOut; rw [HX.out, HSB.out]; rfl
              rw [tickUpto_succ, e, ← List.append_assoc, dlCells_append, List.length_append, HQL.out]
              exact HR1.out
          | false =>
            go_wp2_with fail
            refine (HS.out).mono ?_; rintro e wy ⟨rfl, hby⟩
            have HRy := Lib.hid ((FrT.ofBelow hby 0 []).row HOL.out (.inl rfl))
            obtain ⟨⟨y0, _⟩, y1, _⟩ := (Blk.below hby HKX.out).c2
            have hBy : Below w3.heap.size w3 wy := bon HBX.out HBX.out.size hby
            obtain ⟨⟨m0, _⟩, ⟨m1, _⟩, ⟨m2, _⟩, m3, _⟩ := (Blk.below hBy HM2.out).c4
            have hzy : w3.heap.size ≤ wy.heap.size := hBy.size
            have HBY := Lib.hid hBy
            clear hby hBy
            go_wp2_with fail
            have hiv0 : ¬ iv = 0 := by omega
            have e1 := HE3.out
            have e2 := HE4.out
            go_region_law ((refine step_app _ [48] rfl el_del (.tmp 78) (.tmp 88) rfl w3.heap.size (.slice ya l yc) l (dlCells (tickUpto iv bl its j ++ xc.map (fun z => (⟨xs, 19, bl / 1000000, z⟩ : Dl)))) rfl (HRy.out.drew.alloc _) (.slice (some ⟨wy.heap.size, 0, none⟩) 1 1) 1 (dlCell ⟨xs, 22, bl / 1000, bl / iv⟩) rfl (Src.blk (cs := (dlCell ⟨xs, 22, bl / 1000, bl / iv⟩).toArray) (Blk.newAt rfl) rfl (by simp [dlCell, Value.oneCell']) 1) hA1 (by decide) (by simp; exact Nat.le_succ_of_le hzy) rfl ?_; intro v1 w1 hr1 hf1; have hb1 : Below w3.heap.size wy w1 := (((Below.refl _ _).drew).alloc (by simpa using hzy) _).trans (hf1.toBelow (by simp; exact Nat.le_succ_of_le hzy)); have HB1 := Lib.hid hb1; have HR1 := Lib.hid hr1; clear hr1 hf1 hb1))
            all_goals
              clear e1 e2
              go_wp2_with fail
              go_roundg (n - (j + 1))
              case measure => omega
              case rel =>
                refine ⟨j + 1, by omega, by omega, by first | rfl | simp, HBY.out.trans HB1.out, ?_⟩
                have e : itemOut iv bl its j = xc.map (fun z => (⟨xs, 19, bl / 1000000, z⟩ : Dl)) ++ [⟨xs, 22, bl / 1000, bl / iv⟩] := by unfold itemOut; rw [HX.out, HSB.out]; rfl
                rw [tickUpto_succ, e, ← List.append_assoc, dlCells_append, List.length_append, HQL.out]
                exact HR1.out
    · obtain rfl : n = j := by omega
      have M4 := Blk.below hB HM4.out
      have M6 := Blk.below hB HM6.out
      obtain ⟨⟨a0, b0⟩, ⟨a1, b1⟩, ⟨a2, b2⟩, a3, b3⟩ := M4.c4
      obtain ⟨⟨d0, g0⟩, ⟨d1, g1⟩, ⟨d2, g2⟩, d3, g3⟩ := M6.c4
      have HM4n := Lib.hid M4
      have HBn := Lib.hid hB
      clear M4 M6 K
      go_wp2_with fail
      obtain ⟨KE, FE⟩ := HM4n.out.set4 (.bool true) (.int .i64 iv) (.int .i64 ct) (.slice none 0 0)
      have hB := HB3.out.trans (HBn.out.mono HB3.out.size)
      have hn := HNL.out
      subst hn
      have hL := HL.out
      subst hL
      (try simp only [Exit.inBlock, Exit.then]); refine bodyPost_ret (results_ct rfl _ KE rfl Try.underlying57 rfl (by kernel_rfl)) rfl ?_
      exact ⟨_, rfl, by (with_reducible repeat (first | assumption | exact Below.refl _ _ | refine Below.setCell ?_ (by first | omega | (simp; done) | (simp; omega)) _ | refine Below.drew ?_ | refine bdrewN ?_ _ | refine Below.alloc ?_ (by first | omega | (simp; done) | (simp; omega)) _)), ownsRow_mono (FE.row HO'.out (.inl rfl)) HB3.out.size⟩
end Go.Proofs.Ytijfldgkmbhdoaa
