/- PresentDiscard: the walk. -/
import Derived.Test.YtijfldgkmbhdoaaNum
set_option linter.unusedVariables false
set_option linter.unusedSimpArgs false
namespace Go.Proofs.Ytijfldgkmbhdoaa
open Go.RowKit
attribute [local go_sem ↓] Go.wp_at_zero Go.wp_at_succ

/-- The commits of the first j surfaces, each with its index for a callback. -/
structure Dc (zs : List Int) (j : Nat) (its : List Itm) : Prop where
  len : its.length = j
  at_ : ∀ i (h : i < j) (hj : j ≤ zs.length), ∃ cv, its[i]? = some ⟨1 + zs[i], cv, [(i : Int)]⟩
/-- The indices below j at which the number is g. -/
def wants (zs : List Int) (g : Int) (j : Nat) : List Int := ((List.range j).filter fun i => zs.getD i 0 == g).map fun (i : Nat) => (i : Int)
theorem wants_succ (zs : List Int) (g : Int) (j : Nat) : wants zs g (j + 1) = wants zs g j ++ (if zs.getD j 0 = g then [(j : Int)] else []) := by
  unfold wants
  rw [List.range_succ, List.filter_append, List.map_append]
  by_cases h : zs.getD j 0 = g
  · rw [List.filter_cons_of_pos (by rw [h]; exact beq_self_eq_true g), if_pos h]
    rfl
  · rw [List.filter_cons_of_neg (by rw [beq_iff_eq]; exact h), if_neg h]
    rfl
theorem wants_le (zs : List Int) (g : Int) (j : Nat) : (wants zs g j).length ≤ j := by
  unfold wants
  rw [List.length_map]
  refine Nat.le_trans (List.length_filter_le _ _) ?_
  simp
theorem Dc.nil (zs : List Int) : Dc zs 0 [] := ⟨rfl, fun i h => by omega⟩
theorem Dc.more {zs : List Int} {j : Nat} {its : List Itm} (h : Dc zs j its) (hj : j < zs.length) (cv : Value) : Dc zs (j + 1) (its ++ [⟨1 + zs[j], cv, [(j : Int)]⟩]) := by
  refine ⟨by rw [List.length_append, h.len]; rfl, fun i hi hj' => ?_⟩
  by_cases hij : i = j
  · subst hij
    refine ⟨cv, ?_⟩
    rw [List.getElem?_append_right (by rw [h.len]; omega)]
    simp [h.len]
  · obtain ⟨cv', e⟩ := h.at_ i (by omega) (by omega)
    exact ⟨cv', by rw [List.getElem?_append_left (by rw [h.len]; omega)]; exact e⟩
/-- What Discard hands back of the first j commits. -/
theorem Dc.gone {zs : List Int} {its : List Itm} {n : Nat} (h : Dc zs n its) (hn : n ≤ zs.length) (g : Int) : ∀ j, j ≤ n → goneOf (1 + g) (its.take j) = wants zs g j ∧ (keptOf (1 + g) (its.take j)).length + (wants zs g j).length = j
  | 0, _ => by simp [goneOf, wants, keptOf]
  | j + 1, hj => by
    obtain ⟨cv, e⟩ := h.at_ j (by omega) hn
    obtain ⟨h1, h2⟩ := h.gone hn g j (by omega)
    have hg : zs.getD j 0 = zs[j]'(by omega) := by rw [List.getD_eq_getElem?_getD, List.getElem?_eq_getElem (by omega), Option.getD_some]
    rw [goneOf_succ e, keptOf_succ e, wants_succ, h1, hg]
    simp only
    by_cases hz : zs[j]'(by omega) = g
    · have hz2 : 1 + zs[j]'(by omega) = 1 + g := by omega
      rw [if_pos hz, if_pos hz2, if_pos hz2]
      refine ⟨rfl, ?_⟩
      rw [List.length_append, List.length_singleton]
      omega
    · have hz2 : ¬ 1 + zs[j]'(by omega) = 1 + g := by omega
      rw [if_neg hz, if_neg hz2, if_neg hz2]
      refine ⟨by simp, ?_⟩
      rw [List.length_append, List.length_append, List.length_singleton, List.length_nil]
      omega
theorem grown_far {w w' : World} {row : Option Nat} (hg : w.grownBy w' row) {base : Nat} {e : TypeId} {size n : Nat} {v : Value} {xs : List Value} (h : w.ownsRow base e size v n xs) (hne : v.ownBlock = none ∨ v.ownBlock ≠ row) : w'.ownsRow base e size v n xs := h.kept hg hne
/-- No callbacks lie in the row of the list. -/
def Apart (want : Value) (its : List Itm) : Prop := ∀ x ∈ its, x.cv.ownBlock = none ∨ x.cv.ownBlock ≠ want.ownBlock
theorem Clk.grown {w w' : World} {B p base : Nat} {iv now : Int} {qv want : Value} {its : List Itm} {n : Nat} {xs : List Value} (k : Clk w B p iv now qv its) (hw : w.ownsRow base 42 1 want n xs) (hg : w.grownBy w' want.ownBlock) (ha : Apart want its) : Clk w' B p iv now qv its := by
  have far : ∀ {i : Nat} {e : TypeId} {cs : Array Value}, Blk w i e cs → e ≠ 42 → Blk w' i e cs := fun {i e cs} hb he => by
    refine (hg.block i hb.lt ?_).trans hb
    intro hv
    rcases hw.2 with ⟨rfl, _⟩ | ⟨g, cap, cur, rfl, _, hgh, _⟩
    · simp [Value.ownBlock] at hv
    · simp only [Value.ownBlock, Option.some.injEq] at hv
      subst hv
      unfold Blk at hb
      rw [hgh] at hb
      simp only [Option.some.injEq, Obj.cells.injEq] at hb
      exact he hb.2.1.symm
  refine ⟨k.base, far k.blk (by decide), ⟨?_, ?_, k.que.len, k.que.clen, k.que.srng⟩, k.ivr, k.nowr⟩
  · obtain ⟨h1, h2⟩ := k.que.row
    refine ⟨h1, ?_⟩
    rcases h2 with h2 | ⟨g, cap, cur, rfl, hbg, hgh, r⟩
    · exact .inl h2
    · exact .inr ⟨g, cap, cur, rfl, hbg, far hgh (by decide), r⟩
  · intro x hx
    exact ⟨(k.que.cbs x hx).row.kept hg (ha x hx), (k.que.cbs x hx).rng⟩
theorem own_lt {w : World} {base : Nat} {e : TypeId} {size n : Nat} {v : Value} {xs : List Value} (h : w.ownsRow base e size v n xs) {g : Nat} (hg : v.ownBlock = some g) : base ≤ g ∧ g < w.heap.size := h.lt g hg
/-- A new commit's callbacks lie behind the list's row. -/
theorem Apart.more {w w' : World} {base n : Nat} {want cv : Value} {its : List Itm} {s : Int} {cbs : List Int} {xs : List Value} (h : Apart want its) (hw : w.ownsRow base 42 1 want n xs) (hu : U32s w' w.heap.size cv cbs) : Apart want (its ++ [⟨s, cv, cbs⟩]) := by
  intro x hx
  rcases List.mem_append.1 hx with hx | hx
  · exact h x hx
  · simp only [List.mem_singleton] at hx
    subst hx
    cases hc : cv.ownBlock with
    | none => exact .inl rfl
    | some g =>
      refine .inr (fun e => ?_)
      have h1 := (own_lt hu.row hc).1
      have h2 := (own_lt hw e.symm).2
      omega
/-- The list that has grown lies in its own row, or in a new one. -/
theorem Apart.turn {w : World} {B : Nat} {want want' : Value} {its : List Itm} (h : Apart want its) (hc : ∀ x ∈ its, U32s w B x.cv x.cbs) (hv : want'.ownBlock = want.ownBlock ∨ want'.ownBlock = some w.heap.size) : Apart want' its := by
  intro x hx
  rcases hv with hv | hv
  · rw [hv]; exact h x hx
  · cases hc' : x.cv.ownBlock with
    | none => exact .inl rfl
    | some g =>
      refine .inr (fun e => ?_)
      have := (own_lt (hc x hx).row hc').2
      rw [hv, Option.some.injEq] at e
      omega
theorem tickUpto_surf (iv bl s : Int) (its : List Itm) (h : ∀ x ∈ its, x.s ≠ s) : ∀ n, n ≤ its.length → ∀ d ∈ tickUpto iv bl its n, d.s ≠ s
  | 0, _, d, hd => by simp [tickUpto] at hd
  | n + 1, hn, d, hd => by
    rw [tickUpto_succ] at hd
    rcases List.mem_append.1 hd with hd | hd
    · exact tickUpto_surf iv bl s its h n (by omega) d hd
    · have hx : (its.getD n ⟨0, undef, []⟩).s ≠ s := h _ (by rw [List.getD_eq_getElem?_getD, List.getElem?_eq_getElem (by omega), Option.getD_some]; exact List.getElem_mem _)
      unfold itemOut at hd
      rcases List.mem_append.1 hd with hd | hd
      · obtain ⟨z, _, rfl⟩ := List.mem_map.1 hd
        exact hx
      · rw [List.mem_singleton] at hd
        subst hd
        split <;> exact hx
theorem wants_rng (zs : List Int) (g : Int) (j : Nat) (h : j ≤ 1000) : ∀ z ∈ wants zs g j, 0 ≤ z ∧ z < 4294967296 := by
  intro z hz
  unfold wants at hz
  obtain ⟨i, hi, rfl⟩ := List.mem_map.1 hz
  have := List.mem_range.1 (List.mem_filter.1 hi).1
  omega
theorem Dc.one {zs : List Int} {j : Nat} {its : List Itm} (h : Dc zs j its) (hj : j ≤ zs.length) : ∀ x ∈ its, x.cbs.length = 1 := by
  intro x hx
  obtain ⟨i, hi, rfl⟩ := List.getElem_of_mem hx
  obtain ⟨cv, e⟩ := h.at_ i (by rw [← h.len]; exact hi) hj
  rw [List.getElem?_eq_getElem hi, Option.some.injEq] at e
  rw [e]
  rfl
def DiscR (w : World) (zs : List Int) (g : Int) (B p : Nat) (j : Nat) (want : Value) (wr : World) : Prop :=
  FrT w.heap.size [78, 84] w wr ∧ wr.ownsRow w.heap.size 42 1 want (wants zs g j).length ((wants zs g j).map (Value.int .u32)) ∧ ∃ qv its, Clk wr B p 1000000000 0 qv its ∧ Dc zs j its ∧ Apart want its
set_option maxRecDepth 100000 in
set_option maxHeartbeats 4000000 in
theorem presentdiscard_long (A : Option Addr) (n c : Nat) (ah : Int) (w : World) (hn : 60 < n ∧ n ≤ 9223372036854775807) :
    Calls Try.prog 9 #[.slice A n c, .int .u8 ah] w fun e w' => e = .returned (.bool true) ∧ Below w.heap.size w w' := by
  go_enter Try.func9, Try.ntmps9
  go_wp2_with fail
  refine (lslow_ok _).mono ?_; rintro e w1 ⟨rfl, hb1⟩
  go_wp2_with fail
  refine (pnew_ok _ _ _ _ _ _ _ _ _ (by decide) chk_slow).mono ?_; rintro e w2 ⟨p, rfl, hb2, k2⟩
  have b2 := bthen hb1 hb2
  clear k2 hb1 hb2
  go_wp2_with fail
  refine (ex30_true _).mono ?_; rintro e w3 ⟨rfl, hb3⟩
  have b3 := bthen b2 hb3
  clear hb3
  go_wp2_with fail
  go_ret
  exact ⟨rfl, b3⟩
set_option maxRecDepth 100000 in
set_option maxHeartbeats 4000000 in
theorem presentdiscard_run (A : Option Addr) (zs : List Int) (c : Nat) (gn : Int) (w : World) (hn : zs.length ≤ 60) (hr : Rd w .u8 A zs) (hz : ∀ z ∈ zs, 0 ≤ z ∧ z ≤ 255) (hgn : 0 ≤ gn ∧ gn ≤ 255) :
    Calls Try.prog 9 #[.slice A zs.length c, .int .u8 gn] w fun e w' => e = .returned (.bool true) ∧ Below w.heap.size w w' := by
  obtain ⟨n, hzn⟩ : ∃ n, zs.length = n := ⟨_, rfl⟩
  rw [hzn] at hn ⊢
  have HZN := Lib.hid hzn
  have HRD := Lib.hid hr
  have HZR := Lib.hid hz
  clear hzn hr hz
  go_enter Try.func9, Try.ntmps9
  go_wp2_with fail
  refine (lslow_ok _).mono ?_; rintro e w1 ⟨rfl, hb1⟩
  go_wp2_with fail
  refine (pnew_ok _ _ _ _ _ _ _ _ _ (by decide) chk_slow).mono ?_; rintro e w2 ⟨p, rfl, hb2, k2⟩
  rw [ivl_slow] at k2
  have hBw := hb1.size
  have F2 : FrT w.heap.size [78, 84] w w2 := FrT.ofBelow (bthen hb1 hb2) _ _
  have K2 := Lib.hid k2
  clear k2 hb1 hb2
  go_wp2_with fail
  go_loopg [7, 8, 9] n (fun k s7 s8 s9 wr => ∃ (j m : Nat), k = n - j ∧ j ≤ n ∧ s9 = .int .i64 j ∧ s8 = .int .i64 m ∧ Aside (m + (wants zs gn j).length = j) ∧ DiscR w zs gn w1.heap.size p j s7 wr)
  case atStart => exact ⟨0, 0, by omega, by omega, by first | rfl | simp, by first | rfl | simp, rfl, F2, World.ownsRow_nil _ _ _ _, _, [], K2.out, Dc.nil _, fun x hx => by cases hx⟩
  case round =>
    obtain ⟨j, m, hk, hj, rfl, rfl, HM, F, ro, qv, its, k, hdc, hap⟩ := hrel
    have K := Lib.hid k
    have HDC := Lib.hid hdc
    have HAP := Lib.hid hap
    have hmj : m ≤ j := by have := HM.out; omega
    have hwl := wants_le zs gn j
    obtain ⟨wn, hwn⟩ : ∃ x, (wants zs gn j).length = x := ⟨_, rfl⟩
    rw [hwn] at hwl
    obtain ⟨wa, wc, hwv, _, _⟩ := slice_len ro
    subst hwv
    have ro' := ro
    rw [hwn] at ro'
    have RO := Lib.hid ro'
    have HWN := Lib.hid hwn
    rw [hwn]
    clear k hdc hap ro ro' hwn
    by_cases hlt : j < n
    · obtain ⟨b, off, hA, hbl, hcz⟩ := HRD.out j (by rw [HZN.out]; omega)
      have htr := HZR.out _ (List.getElem_mem (by rw [HZN.out]; omega : j < zs.length))
      obtain ⟨t, ht⟩ : ∃ t, zs[j]'(by rw [HZN.out]; omega) = t := ⟨_, rfl⟩
      rw [ht] at hcz htr
      have HT := Lib.hid ht
      have HCZ := Lib.hid hcz
      clear ht
      subst hA
      have hcr := ((F.toBelow (Nat.le_refl _)).cell (p := ⟨b, off + j, none⟩) hbl).trans hcz
      clear hcz
      have KA := Lib.hid (K.out.carry ((FrT.refl 0 [] wr).alloc (Obj.cells #[.int .u32 (j : Int)] 42)) ⟨rfl, rfl, rfl⟩)
      go_wp2_with fail
      refine (pcommit_okx w1.heap.size p 1000000000 0 (1 + t) _ its _ [(j : Int)] _ KA.out (by omega) (by rw [HDC.out.len]; omega) (u32_one rfl) (by simp) (by simp; omega)).mono ?_; rintro e w6 ⟨rfl, f6, qv6, cv6, k6, u6⟩
      have F6 := (F.alloc (Obj.cells #[.int .u32 (j : Int)] 42)).trans (f6.mono hBw (fun _ h => h))
      have RO6 := Lib.hid (f6.row (RO.out.alloc (Obj.cells #[.int .u32 (j : Int)] 42)) (.inl rfl))
      have z6 := ((F6.toBelow (Nat.le_refl _)).cell (p := ⟨b, off + j, none⟩) hbl).trans HCZ.out
      have hap6 : Apart (.slice wa wn wc) (its ++ [⟨1 + t, cv6, [(j : Int)]⟩]) := Apart.more (by rw [← HWN.out]; exact HAP.out) (RO.out.alloc (Obj.cells #[.int .u32 (j : Int)] 42)) u6
      have hdc6 := HDC.out.more (by rw [HZN.out]; omega) cv6
      rw [HT.out] at hdc6
      have hws := wants_succ zs gn j
      have hgd : zs.getD j 0 = t := by rw [List.getD_eq_getElem?_getD, List.getElem?_eq_getElem (by rw [HZN.out]; omega), Option.getD_some]; exact HT.out
      rw [hgd] at hws
      have K6 := Lib.hid k6
      have HA6 := Lib.hid hap6
      have HD6 := Lib.hid hdc6
      have hz6 := F6.size
      clear f6 k6 u6 hap6 hdc6 hgd
      by_cases htg : t = gn
      · subst htg
        rw [if_pos rfl] at hws
        have HWS := Lib.hid hws
        clear hws
        go_wp2_with (at_builtin; refine wpList_appx _ rfl el_u32 (.tmp 51) (.tmp 54) rfl w.heap.size (.slice wa wn wc) wn ((wants zs t j).map (Value.int .u32)) rfl (RO6.out.alloc _) (.slice (some ⟨w6.heap.size, 0, none⟩) 1 1) 1 [.int .u32 (j : Int)] rfl (u32_one rfl) (by omega) (by decide) (by simp; omega) ?_; intro v7 w7 hr7 hg7 hl7; have HR7 := Lib.hid hr7; have HG7 := Lib.hid hg7; have HL7 := Lib.hid hl7; obtain ⟨a7, c7, hv7, _, _⟩ := slice_len hr7; subst hv7; clear hr7 hg7 hl7)
        have KB := K6.out.carry ((FrT.refl 0 [] w6).alloc (Obj.cells #[.int .u32 (j : Int)] 42)) ⟨rfl, rfl, rfl⟩
        have HKB := Lib.hid KB
        clear KB
        go_roundg (n - (j + 1))
        case measure => omega
        case rel =>
          refine ⟨j + 1, m, by omega, by omega, by first | rfl | simp, rfl, ?_, ?_, ?_, qv6, _, HKB.out.grown (RO6.out.alloc _) HG7.out HA6.out, HD6.out, HA6.out.turn HKB.out.que.cbs HL7.out⟩
          · rw [HWS.out, List.length_append]
            have := HM.out
            show _ + (_ + 1) = _
            omega
          · exact (F6.alloc _).grown (RO6.out.alloc _) HG7.out (.inr (Nat.le_refl _))
          · rw [HWS.out, List.length_append, HWN.out, List.map_append]
            exact HR7.out
      · have htg1 : (t == gn) = false := by simpa using htg
        rw [if_neg htg, List.append_nil] at hws
        have HWS := Lib.hid hws
        clear hws
        go_wp2_with fail
        go_roundg (n - (j + 1))
        case measure => omega
        case rel =>
          refine ⟨j + 1, m + 1, by omega, by omega, by first | rfl | simp, by first | rfl | simp, ?_, F6, ?_, qv6, _, K6.out, HD6.out, HA6.out⟩
          · rw [HWS.out]
            have := HM.out
            show _ + 1 + _ = _
            omega
          · rw [HWS.out, HWN.out]
            exact RO6.out
    · obtain rfl : n = j := by omega
      go_wp2_with fail
      have dg := HDC.out.gone (by rw [HZN.out]; omega) gn n (Nat.le_refl _)
      rw [List.take_of_length_le (by rw [HDC.out.len]; omega)] at dg
      obtain ⟨dg1, dg2⟩ := dg
      have hkl : (keptOf (1 + gn) its).length = m := by have := HM.out; omega
      have hwn := HWN.out
      subst hwn
      refine (pdiscard_ok w1.heap.size p 1000000000 0 (1 + gn) _ its _ K.out).mono ?_; rintro e w8 ⟨v8, qv8, rfl, f8, k8, u8⟩
      have F8 := F.trans (f8.mono hBw (fun _ h => h))
      have U2 : U32s w8 w.heap.size (.slice wa (wants zs gn n).length wc) (wants zs gn n) := ⟨f8.row RO.out (.inl rfl), wants_rng zs gn n (by omega)⟩
      rw [dg1] at u8
      obtain ⟨a8, c8, hv8, _, _⟩ := slice_len u8.row
      subst hv8
      have hN := numbers_same a8 wa c8 wc (wants zs gn n) w8 u8.rd U2.rd (by omega)
      have HN8 := Lib.hid hN
      have K8 := Lib.hid k8
      have HKL := Lib.hid hkl
      clear dg1 dg2 hkl f8 k8 u8 U2 hN
      go_wp2_with fail
      refine HN8.out.mono ?_; rintro e w9 ⟨rfl, hb9⟩
      have F9 := F8.trans (FrT.ofBelow hb9 _ _)
      have K9 := Lib.hid (K8.out.below hb9)
      clear hb9
      go_wp2_with fail
      refine (ppending_ok _ _ _ _ _ _ _ K9.out).mono ?_; rintro e w10 ⟨rfl, rfl⟩
      rw [HKL.out]
      go_wp2_with fail
      refine (ptick_go w1.heap.size p 1000000000 0 1000000000 _ _ _ K9.out (by omega) (by decide)).mono ?_; rintro e w10 ⟨v10, rfl, f10, k10, r10⟩
      have F10 := F9.trans (f10.mono hBw (fun _ h => h))
      rw [show nxt 1000000000 0 = 1000000000 by decide] at r10
      have h1 := HDC.out.one (by rw [HZN.out]; omega)
      have e10 : (tickOut 1000000000 1000000000 (keptOf (1 + gn) its)).length = 2 * m := by
        unfold tickOut
        rw [tickUpto_two 1000000000 1000000000 (keptOf (1 + gn) its) (fun x hx => h1 x (List.mem_filter.1 hx).1) _ (Nat.le_refl _), HKL.out]
      have hsf := tickUpto_surf 1000000000 1000000000 (1 + gn) (keptOf (1 + gn) its) (fun x hx => by have := (List.mem_filter.1 hx).2; simpa using this) _ (Nat.le_refl _)
      have r10' := r10
      rw [e10] at r10'
      obtain ⟨a10, c10, hv10, _, _⟩ := slice_len r10'
      subst hv10
      have R10 := Lib.hid r10
      have E10 := Lib.hid e10
      have HSF := Lib.hid hsf
      clear f10 k10 r10 r10' e10 h1 hsf
      go_wp2_with fail
      go_loopg [11] (2 * m) (fun k s11 wx => ∃ i : Nat, k = 2 * m - i ∧ i ≤ 2 * m ∧ s11 = .int .i64 i ∧ w10 = wx)
      case atStart => exact ⟨0, by omega, by omega, by first | rfl | simp, rfl⟩
      case round =>
        obtain ⟨i, hk2, hi2, rfl, rfl⟩ := hrel
        by_cases hlt2 : i < 2 * m
        · obtain ⟨g, hag, hcl⟩ := dl_at R10.out (by rw [E10.out]; omega)
          subst hag
          have hd : (tickOut 1000000000 1000000000 (keptOf (1 + gn) its))[i]? = some ((tickOut 1000000000 1000000000 (keptOf (1 + gn) its))[i]'(by rw [E10.out]; omega)) := List.getElem?_eq_getElem _
          have hds := HSF.out _ (List.getElem_mem (by have := E10.out; unfold tickOut at this; rw [this]; omega : i < (tickUpto 1000000000 1000000000 (keptOf (1 + gn) its) (keptOf (1 + gn) its).length).length))
          have u1 := hcl _ _ 1 _ hd (by omega) rfl
          obtain ⟨q, hq⟩ : ∃ q, ((tickOut 1000000000 1000000000 (keptOf (1 + gn) its))[i]'(by rw [E10.out]; omega)).s = q := ⟨_, rfl⟩
          have hqn : q ≠ 1 + gn := by rw [← hq]; exact hds
          rw [hq] at u1
          have hqb : (q == 1 + gn) = false := by simpa using hqn
          clear hcl hd hds hq hqn
          go_wp2_with fail
          go_roundg (2 * m - (i + 1))
          case measure => omega
          case rel => exact ⟨i + 1, by omega, by omega, by first | rfl | simp, rfl⟩
        · obtain rfl : 2 * m = i := by omega
          go_wp2_with fail
          refine (ex30_true _).mono ?_; rintro e w13 ⟨rfl, hb13⟩
          have F13 := F10.trans (FrT.ofBelow hb13 _ _)
          clear hb13
          go_wp2_with fail
          go_ret
          exact ⟨rfl, F13.toBelow (Nat.le_refl _)⟩
theorem presentdiscard_any (A : Option Addr) (zs : List Int) (c : Nat) (gn : Int) (w : World) (hlc : zs.length ≤ c) (hc : c ≤ 9223372036854775807) (hr : Rd w .u8 A zs) (hz : ∀ z ∈ zs, 0 ≤ z ∧ z ≤ 255) (hgn : 0 ≤ gn ∧ gn ≤ 255) :
    Calls Try.prog 9 #[.slice A zs.length c, .int .u8 gn] w fun e w' => e = .returned (.bool true) ∧ Below w.heap.size w w' := by
  by_cases hn : zs.length ≤ 60
  · exact presentdiscard_run A zs c gn w hn hr hz hgn
  · exact presentdiscard_long A _ c gn w ⟨by omega, by omega⟩
end Go.Proofs.Ytijfldgkmbhdoaa
