/- Tick at a blank. -/
import Derived.Test.YtijfldgkmbhdoaaTick
set_option linter.unusedVariables false
set_option linter.unusedSimpArgs false
namespace Go.Proofs.Ytijfldgkmbhdoaa
open Go.RowKit
attribute [local go_sem ↓] Go.wp_at_zero Go.wp_at_succ

/-- What a blank at 'bl' yields for the commit of index i, and for the first n commits. -/
def itemOut (iv bl : Int) (its : List Itm) (i : Nat) : List Dl :=
  (its.getD i ⟨0, undef, []⟩).cbs.map (fun n => ⟨(its.getD i ⟨0, undef, []⟩).s, 19, bl / 1000000, n⟩) ++
    [if supB its i then ⟨(its.getD i ⟨0, undef, []⟩).s, 23, 0, 0⟩ else ⟨(its.getD i ⟨0, undef, []⟩).s, 22, bl / 1000, bl / iv⟩]
def tickUpto (iv bl : Int) (its : List Itm) (n : Nat) : List Dl := (List.range n).flatMap (itemOut iv bl its)
def tickOut (iv bl : Int) (its : List Itm) : List Dl := tickUpto iv bl its its.length
theorem tickUpto_succ (iv bl : Int) (its : List Itm) (n : Nat) : tickUpto iv bl its (n + 1) = tickUpto iv bl its n ++ itemOut iv bl its n := by
  simp [tickUpto, List.range_succ]
theorem tickUpto_length (iv bl : Int) (its : List Itm) (hc : ∀ x ∈ its, x.cbs.length ≤ 256) : ∀ n, n ≤ its.length → (tickUpto iv bl its n).length ≤ n * 257
  | 0, _ => by simp [tickUpto]
  | n + 1, h => by
    rw [tickUpto_succ, List.length_append]
    have h1 := tickUpto_length iv bl its hc n (by omega)
    have h2 : (itemOut iv bl its n).length ≤ 257 := by
      unfold itemOut
      rw [List.length_append, List.length_map]
      have := hc (its.getD n ⟨0, undef, []⟩) (by rw [List.getD_eq_getElem?_getD, List.getElem?_eq_getElem (by omega), Option.getD_some]; exact List.getElem_mem _)
      simp only [List.length_cons, List.length_nil]
      omega
    omega

theorem U32s.form {w : World} {B : Nat} {ad : Option Addr} {m c : Nat} {zs : List Int} (k : U32s w B (.slice ad m c) zs) (hm : 0 < zs.length) :
    ∃ g, ad = some ⟨g, 0, none⟩ ∧ g < w.heap.size ∧ ∀ q (hq : q < zs.length), w.cell? ⟨g, q, none⟩ = some (.int .u32 zs[q]) := by
  rcases k.row.2 with ⟨_, h0⟩ | ⟨g, cap, cur, hv, hbg, hg, h1, h2, _⟩
  · omega
  · have hv' := hv
    simp only [Value.slice.injEq] at hv'
    obtain ⟨rfl, _, rfl⟩ := hv'
    refine ⟨g, rfl, (Array.getElem?_eq_some_iff.1 hg).1, fun q hq => ?_⟩
    have hrow := k.row
    rw [hv] at hrow
    rw [hrow.cellAt q (by omega)]
    simp [hq]

def Ticked (w : World) (B p : Nat) (iv now bl : Int) (its : List Itm) (e : Ending) (w' : World) : Prop :=
  ∃ v, e = .returned v ∧ FrT B [78, 84] w w' ∧ Clk w' B p iv now (.slice none 0 0) [] ∧ w'.ownsRow w.heap.size 48 9 v (tickOut iv bl its).length (dlCells (tickOut iv bl its))
theorem Outs.drewN {w : World} {H bo : Nat} {ov : Value} {l : List Dl} (h : Outs w H bo ov l) (n : Nat) : Outs (w.drewN n) H bo ov l := ⟨h.base, h.blk, h.row⟩
theorem tick_end {w w2 wr : World} {B p : Nat} {iv c bl : Int} {qv ov : Value} {its : List Itm} (f2 : FrT B [78, 84] w w2) (k2 : Clk w2 B p iv c qv its) (hB : Below w2.heap.size w2 wr)
    (o : Outs wr w2.heap.size w2.heap.size ov (tickUpto iv bl its its.length)) :
    FrT B [78, 84] w (wr.setCell ⟨p, 2, none⟩ (.slice none 0 0)) ∧ Clk (wr.setCell ⟨p, 2, none⟩ (.slice none 0 0)) B p iv c (.slice none 0 0) [] ∧
      (wr.setCell ⟨p, 2, none⟩ (.slice none 0 0)).ownsRow w.heap.size 48 9 ov (tickOut iv bl its).length (dlCells (tickOut iv bl its)) := by
  have k3 := k2.below hB
  have f3 : FrT B [78] wr (wr.setCell ⟨p, 2, none⟩ (.slice none 0 0)) := (FrT.refl _ _ _).set k3.blk rfl k2.base _
  refine ⟨(f2.trans (FrT.ofBelow hB _ _)).trans (f3.mono (Nat.le_refl _) (by simp)), ⟨k2.base, k3.blk.set 2 _, que_nil _ _ _, k2.ivr, k2.nowr⟩, ?_⟩
  exact ownsRow_mono (f3.row o.row (.inl rfl)) f2.size
set_option maxRecDepth 100000 in
set_option maxHeartbeats 4000000 in
theorem ptick_go (B p : Nat) (iv now t : Int) (qv : Value) (its : List Itm) (w : World) (k : Clk w B p iv now qv its) (ht : -9223372036854775808 ≤ t ∧ t < 9223372036854775808) (hb : nxt iv now ≤ tickT now t) :
    Calls Try.prog 23 #[.pointer (some ⟨p, 0, none⟩), .int .i64 t] w (Ticked w B p iv (tickT now t) (nxt iv now) its) := by
  obtain ⟨⟨c0, f0⟩, ⟨c1, f1⟩, c2, f2⟩ := k.blk.c3
  have hi := k.ivr
  have hnr := k.nowr
  have hn := nxt_rng now hi
  have hcn : clampT now = now := by unfold clampT; rw [if_neg (by omega), if_neg (by omega)]
  rw [hcn] at hn
  have hN := fun W c => pnext_ok p iv now W c hi (by omega)
  have hC := fun W => pclamp_any t W ht
  have hcr := clampT_rng t
  have hpl := k.blk.lt
  unfold tickT at hb ⊢
  generalize clampT t = c at *
  generalize nxt iv now = bl at *
  have hnc : now < c := by
    by_cases h : now < c
    · exact h
    · rw [if_neg h] at hb; omega
  rw [if_pos hnc] at hb ⊢
  have HK := Lib.hid k
  have HC := Lib.hid hC
  have HNX := Lib.hid hN
  clear k hC hN hcn
  go_enter Try.func23, Try.ntmps23
  go_wp2_with (first | (go_at_call 44; refine (pusable_yes _ _ _ c0 hi.1).mono ?_; rintro e w' ⟨rfl, rfl⟩) | (go_at_call 18; refine (HNX.out _ c0).mono ?_; rintro e w1 ⟨rfl, hb1⟩; have K1 := Blk.below hb1 HK.out.blk; obtain ⟨⟨d0, g0⟩, ⟨d1, g1⟩, d2, g2⟩ := K1.c3; have HK1 := Lib.hid K1; clear K1))
  (refine wp_region_quiet_tail_drew 8 (by kernel_rfl) (by kernel_rfl) ?_; simp only [List.take_succ_cons, List.take_zero, List.drop_succ_cons, List.drop_zero]; (repeat (go_big_quiet_step ((go_at_call 45; exact quiet_mine (HC.out _))))); refine wpQuiet_nil ?_; intro _ hw'; obtain ⟨nq, hw''⟩ := hw'; subst hw'')
  go_upto_region 7 with (fail)
  obtain ⟨F2, K2⟩ := still_end HK.out hb1 nq (c := c) ⟨by omega, by omega⟩
  have hbl0 : decide (c < bl) = false := by simp; omega
  rw [hbl0]
  clear hbl0
  generalize (w1.drewN nq).setCell ⟨p, 1, none⟩ (.int .i64 c) = w2 at *
  obtain ⟨⟨_, _⟩, ⟨_, _⟩, p2, q2⟩ := K2.blk.c3
  obtain ⟨qa, qc, hq, _, _⟩ := slice_len K2.que.row
  subst hq
  obtain ⟨n, hnl⟩ : ∃ n, its.length = n := ⟨_, rfl⟩
  have hn256 := K2.que.len
  rw [hnl] at p2 hn256
  have hp2l := K2.blk.lt
  have HK2 := Lib.hid K2
  have HF2 := Lib.hid F2
  have HNL := Lib.hid hnl
  clear d0 g0 d1 g1 d2 g2 hb1 HK1 K2 F2 hnl HC HNX
  have O0 : Outs (w2.alloc (.cells #[.slice none 0 0] 45)) w2.heap.size w2.heap.size (.slice none 0 0) [] := ⟨Nat.le_refl _, Blk.new _ _ _, World.ownsRow_nil _ _ _ _⟩
  have HO0 := Lib.hid O0
  clear O0
  go_wp2
  go_loopg [43] n (fun k s43 wr => ∃ (j : Nat) (ov : Value), k = n - j ∧ j ≤ n ∧ s43 = .int .i64 j ∧ Below w2.heap.size w2 wr ∧ Outs wr w2.heap.size w2.heap.size ov (tickUpto iv bl its j))
  case atStart => exact ⟨0, _, by omega, by omega, by first | rfl | simp, by (with_reducible repeat (first | assumption | exact Below.refl _ _ | refine Below.setCell ?_ (by first | omega | (simp; done) | (simp; omega)) _ | refine Below.drew ?_ | refine bdrewN ?_ _ | refine Below.alloc ?_ (by first | omega | (simp; done) | (simp; omega)) _)), HO0.out⟩
  case round =>
    obtain ⟨j, ov, hk, hj, rfl, hB, hO⟩ := hrel
    have K := (HK2.out).carry (FrT.ofBelow hB 0 []) ⟨rfl, rfl, rfl⟩
    obtain ⟨⟨r0, _⟩, ⟨r1, _⟩, r2, r3⟩ := K.blk.c3
    rw [HNL.out] at r2
    have hO' := Lib.hid hO
    clear hO
    by_cases hlt : j < n
    · obtain ⟨g, cap, hqf, _, _, hgl, hcl⟩ := K.que.form (by rw [HNL.out]; omega)
      obtain ⟨q0, q1, _⟩ := hcl j (by rw [HNL.out]; omega)
      have hmem : its[j]'(by rw [HNL.out]; omega) ∈ its := List.getElem_mem _
      have U2 := HK2.out.que.cbs _ hmem
      have hc256 := HK2.out.que.clen _ hmem
      have hsr := HK2.out.que.srng _ hmem
      have e1 : its.getD j ⟨0, undef, []⟩ = its[j]'(by rw [HNL.out]; omega) := by simp [HNL.out, hlt]
      rw [← e1] at q0 q1 U2 hc256 hsr
      clear e1 hcl hmem
      obtain ⟨X, hX⟩ : ∃ X, its.getD j ⟨0, undef, []⟩ = X := ⟨_, rfl⟩
      rw [hX] at q0 q1 U2 hc256 hsr
      obtain ⟨xs, xv, xc⟩ := X
      simp only at q0 q1 U2 hc256 hsr
      obtain ⟨xa, xk, hxv, _, _⟩ := slice_len U2.row
      subst hxv
      simp only [Value.slice.injEq] at hqf
      obtain ⟨rfl, _, rfl⟩ := hqf
      obtain ⟨m, hm⟩ : ∃ m, xc.length = m := ⟨_, rfl⟩
      rw [hm] at q1 hc256
      have HX := Lib.hid hX
      have HU2 := Lib.hid U2
      have HM := Lib.hid hm
      have HKr := Lib.hid K
      clear hX U2 hm K
      have O1 : Outs (wr.alloc (.cells #[.int .i64 xs, .slice xa m xk] 84)) w2.heap.size w2.heap.size ov (tickUpto iv bl its j ++ (xc.take 0).map (fun z => ⟨xs, 19, bl / 1000000, z⟩)) := by
        rw [List.take_zero, List.map_nil, List.append_nil]
        exact ⟨hO'.out.base, hO'.out.blk.alloc _, hO'.out.row.alloc _⟩
      have HO1 := Lib.hid O1
      have hzr := hB.size
      have hlen := tickUpto_length iv bl its HK2.out.que.clen j (by rw [HNL.out]; omega)
      obtain ⟨L, hL⟩ : ∃ L, (tickUpto iv bl its j).length = L := ⟨_, rfl⟩
      rw [hL] at hlen
      have HL := Lib.hid hL
      clear O1 hL
      go_wp2
      go_loopg [51] m (fun k s51 wx => ∃ (q : Nat) (ov : Value), k = m - q ∧ q ≤ m ∧ s51 = .int .i64 q ∧ Below w2.heap.size w2 wx ∧ wr.heap.size < wx.heap.size ∧ Blk wx wr.heap.size 84 #[.int .i64 xs, .slice xa m xk] ∧ Outs wx w2.heap.size w2.heap.size ov (tickUpto iv bl its j ++ (xc.take q).map (fun z => ⟨xs, 19, bl / 1000000, z⟩)))
      case atStart => exact ⟨0, _, by omega, by omega, by first | rfl | simp, hB.alloc hB.size _, by simp, Blk.new _ _ _, HO1.out⟩
      case round =>
        obtain ⟨q, ov2, hk2, hq, rfl, hBx, hzx, KX, hOx⟩ := hrel
        have hOx' := Lib.hid hOx
        obtain ⟨⟨x0, _⟩, x1, _⟩ := KX.c2
        have HKX := Lib.hid KX
        clear hOx KX
        by_cases hltq : q < m
        · obtain ⟨ga, hga, hgal, hgc⟩ := HU2.out.form (by rw [HM.out]; omega)
          have y0 := hgc q (by rw [HM.out]; omega)
          replace y0 := (hBx.cell (p := ⟨ga, q, none⟩) hgal).trans y0
          have yr := HU2.out.rng _ (List.getElem_mem (by rw [HM.out]; omega : q < xc.length))
          obtain ⟨z, hz⟩ : ∃ z, xc[q]'(by rw [HM.out]; omega) = z := ⟨_, rfl⟩
          rw [hz] at y0 yr
          have HZ := Lib.hid hz
          clear hz hgc
          subst hga
          go_wp2_with (go_at_call 46; refine (ptick1_ok _ _ _ _ _ _ _ _ _ hOx'.out (by rw [List.length_append, List.length_map, HL.out, List.length_take]; omega)).mono ?_; rintro e wy ⟨rfl, hfy, ov3, hOy⟩; have hBy : Below w2.heap.size w2 wy := hBx.trans (hfy.toBelow (by omega)); have KY := hfy.blk HKX.out (.inr rfl); have hzy := hfy.size; have HOy := Lib.hid hOy; have HKY := Lib.hid KY; clear hOy KY hfy)
          go_roundg (m - (q + 1))
          case measure => omega
          case rel =>
            have e : xc.take (q + 1) = xc.take q ++ [z] := by rw [List.take_add_one, List.getElem?_eq_getElem (by rw [HM.out]; omega), HZ.out]; rfl
            refine ⟨q + 1, ov3, by omega, by omega, by first | rfl | simp, hBy, by omega, HKY.out, ?_⟩
            rw [e, List.map_append, ← List.append_assoc]
            exact HOy.out
        · obtain rfl : m = q := by omega
          rename_i wxx
          have KC := (HK2.out).carry (FrT.ofBelow hBx 0 []) ⟨rfl, rfl, rfl⟩
          obtain ⟨sb, hsb⟩ : ∃ b, supB its j = b := ⟨_, rfl⟩
          have hS := psuperseded_ok B p iv c _ its wr KC j (by rw [HNL.out]; omega)
          rw [hsb] at hS
          have HSB := Lib.hid hsb
          have HS := Lib.hid hS
          have HKC := Lib.hid KC
          have hOl : Outs wr w2.heap.size w2.heap.size ov2 (tickUpto iv bl its j ++ xc.map (fun z => ⟨xs, 19, bl / 1000000, z⟩)) := by
            have := hOx'.out
            rwa [List.take_of_length_le (by rw [HM.out]; omega)] at this
          have hlen2 : (tickUpto iv bl its j ++ xc.map (fun z => (⟨xs, 19, bl / 1000000, z⟩ : Dl))).length < 100000 := by rw [List.length_append, List.length_map, HL.out, HM.out]; omega
          have HOl := Lib.hid hOl
          have HLN := Lib.hid hlen2
          clear hS KC hsb hOl hlen2
          cases sb with
          | true =>
            go_wp2_with (first | (go_at_call 47; refine (HS.out).mono ?_; rintro e wy ⟨rfl, hby⟩; have HOy := Lib.hid ((⟨HOl.out.base, Blk.below hby HOl.out.blk, (FrT.ofBelow hby 0 []).row HOl.out.row (.inl rfl)⟩ : Outs wy w2.heap.size w2.heap.size ov2 _)); obtain ⟨⟨y0, _⟩, y1, _⟩ := (Blk.below hby HKX.out).c2; have hBy : Below w2.heap.size w2 wy := bon hBx hBx.size hby) | (go_at_call 46; refine (ptick1_ok _ _ _ _ _ _ _ _ _ HOy.out HLN.out).mono ?_; rintro e wz ⟨rfl, hfz, ov3, hOz⟩; have hBz : Below w2.heap.size w2 wz := hBy.trans (hfz.toBelow hBy.size); have HOz := Lib.hid hOz; clear hOz hfz))
            go_roundg (n - (j + 1))
            case measure => omega
            case rel =>
              refine ⟨j + 1, ov3, by omega, by omega, by first | rfl | simp, hBz, ?_⟩
              have e : itemOut iv bl its j = xc.map (fun z => (⟨xs, 19, bl / 1000000, z⟩ : Dl)) ++ [⟨xs, 23, 0, 0⟩] := by unfold itemOut; rw [HX.out, HSB.out]; rfl
              rw [tickUpto_succ, e, ← List.append_assoc]
              exact HOz.out
          | false =>
            go_wp2_with (go_at_call 47; refine (HS.out).mono ?_; rintro e wy ⟨rfl, hby⟩; have HOy := Lib.hid ((⟨HOl.out.base, Blk.below hby HOl.out.blk, (FrT.ofBelow hby 0 []).row HOl.out.row (.inl rfl)⟩ : Outs wy w2.heap.size w2.heap.size ov2 _)); obtain ⟨⟨y0, _⟩, y1, _⟩ := (Blk.below hby HKX.out).c2; obtain ⟨⟨v0, _⟩, _⟩ := (Blk.below hby HKC.out.blk).c3; have hBy : Below w2.heap.size w2 wy := bon hBx hBx.size hby)
            (refine wp_region_quiet_tail_drew 11 (by kernel_rfl) (by kernel_rfl) ?_; simp only [List.take_succ_cons, List.take_zero, List.drop_succ_cons, List.drop_zero]; (repeat (go_big_quiet_step (fail))); refine wpQuiet_nil ?_; intro _ hw'; obtain ⟨nq, hw''⟩ := hw'; subst hw'')
            go_wp2_with (go_at_call 46; refine (ptick1_ok _ _ _ _ _ _ _ _ _ (HOy.out.drewN nq) HLN.out).mono ?_; rintro e wz ⟨rfl, hfz, ov3, hOz⟩; have hBz : Below w2.heap.size w2 wz := hBy.trans (hfz.undrewN.toBelow hBy.size); have HOz := Lib.hid hOz; clear hOz hfz)
            go_roundg (n - (j + 1))
            case measure => omega
            case rel =>
              refine ⟨j + 1, ov3, by omega, by omega, by first | rfl | simp, hBz, ?_⟩
              have e : itemOut iv bl its j = xc.map (fun z => (⟨xs, 19, bl / 1000000, z⟩ : Dl)) ++ [⟨xs, 22, bl / 1000, bl / iv⟩] := by unfold itemOut; rw [HX.out, HSB.out]; rfl
              rw [tickUpto_succ, e, ← List.append_assoc]
              exact HOz.out
    · obtain rfl : n = j := by omega
      obtain ⟨o0, o1⟩ := hO'.out.blk.c1
      go_wp2
      go_ret
      refine ⟨ov, rfl, ?_⟩
      have hn := HNL.out
      subst hn
      exact tick_end HF2.out HK2.out hB hO'.out
end Go.Proofs.Ytijfldgkmbhdoaa
