/- The calls of both clocks, each with one contract, over queues without their memory. -/
import Derived.Test.YtijfldgkmbhdoaaRDisc
import Derived.Test.YtijfldgkmbhdoaaRTick2
set_option linter.unusedVariables false
set_option linter.unusedSimpArgs false
namespace Go.Proofs.Ytijfldgkmbhdoaa
open Go.RowKit

/-- A queue, without where its callbacks lie. -/
def nrm1 (x : Itm) : Itm := ⟨x.s, undef, x.cbs⟩
def nrm (its : List Itm) : List Itm := its.map nrm1
theorem nrm_length (its : List Itm) : (nrm its).length = its.length := List.length_map _
theorem nrm_append (a b : List Itm) : nrm (a ++ b) = nrm a ++ nrm b := List.map_append
theorem nrm_kept (s : Int) (its : List Itm) : nrm (keptOf s its) = keptOf s (nrm its) := by
  unfold nrm keptOf
  rw [List.filter_map]
  rfl
theorem nrm_gone (s : Int) (its : List Itm) : goneOf s (nrm its) = goneOf s its := by
  unfold nrm goneOf
  rw [List.filter_map, List.flatMap_map]
  rfl
theorem nrm_getD (its : List Itm) (i : Nat) : (nrm its).getD i ⟨0, undef, []⟩ = nrm1 (its.getD i ⟨0, undef, []⟩) := by
  unfold nrm
  rw [List.getD_eq_getElem?_getD, List.getD_eq_getElem?_getD, List.getElem?_map]
  cases its[i]? <;> rfl
theorem nrm_sup (its : List Itm) (i : Nat) : supB (nrm its) i = supB its i := by
  unfold supB
  rw [nrm_getD]
  unfold nrm
  rw [← List.map_drop, List.any_map]
  rfl
theorem nrm_item (iv bl : Int) (its : List Itm) (i : Nat) : itemOut iv bl (nrm its) i = itemOut iv bl its i := by
  unfold itemOut
  rw [nrm_getD, nrm_sup]
  rfl
theorem nrm_tick (iv bl : Int) (its : List Itm) : tickOut iv bl (nrm its) = tickOut iv bl its := by
  unfold tickOut tickUpto
  rw [nrm_length]
  congr 1
  funext i
  exact nrm_item iv bl its i

/-- The program's clock. -/
def PClk (w : World) (B p : Nat) (iv now : Int) (K : List Itm) : Prop := ∃ qv its, Clk w B p iv now qv its ∧ nrm its = K
/-- The reference's queue. -/
def RQ (w : World) (ad : Option Addr) (n c : Nat) (K : List Itm) : Prop := n = K.length ∧ ∃ its, Que w 0 87 (.slice ad n c) its ∧ nrm its = K
theorem PClk.carry {B : Nat} {T : List TypeId} {w w' : World} (h : FrT B T w w') {b p : Nat} {iv now : Int} {K : List Itm} (k : PClk w b p iv now K) (hc : T.contains 78 = false ∧ T.contains 84 = false ∧ T.contains 42 = false) : PClk w' b p iv now K := by
  obtain ⟨qv, its, k, e⟩ := k
  exact ⟨qv, its, k.carry h hc, e⟩
theorem PClk.below {w w' : World} (h : Below w.heap.size w w') {b p : Nat} {iv now : Int} {K : List Itm} (k : PClk w b p iv now K) : PClk w' b p iv now K := k.carry (FrT.ofBelow h 0 []) ⟨rfl, rfl, rfl⟩
theorem RQ.carry {B : Nat} {T : List TypeId} {w w' : World} (h : FrT B T w w') {ad : Option Addr} {n c : Nat} {K : List Itm} (k : RQ w ad n c K) (hc : T.contains 87 = false ∧ T.contains 42 = false) : RQ w' ad n c K := by
  obtain ⟨hn, its, k, e⟩ := k
  exact ⟨hn, its, k.carry h hc, e⟩
theorem RQ.below {w w' : World} (h : Below w.heap.size w w') {ad : Option Addr} {n c : Nat} {K : List Itm} (k : RQ w ad n c K) : RQ w' ad n c K := k.carry (FrT.ofBelow h 0 []) ⟨rfl, rfl⟩
theorem RQ.len {w : World} {ad : Option Addr} {n c : Nat} {K : List Itm} (k : RQ w ad n c K) : n ≤ 256 ∧ n ≤ c := by
  obtain ⟨hn, its, k, e⟩ := k
  obtain ⟨a, c', hv, h1, _⟩ := slice_len k.row
  simp only [Value.slice.injEq] at hv
  have h2 := k.len
  obtain ⟨_, h3, rfl⟩ := hv
  exact ⟨by omega, by omega⟩
theorem Que.rq {w : World} {qv : Value} {its : List Itm} (k : Que w 0 87 qv its) : ∃ ad c, qv = .slice ad (nrm its).length c ∧ RQ w ad (nrm its).length c (nrm its) := by
  obtain ⟨a, c', hv, h1, _⟩ := slice_len k.row
  subst hv
  rw [nrm_length]
  exact ⟨a, c', rfl, (nrm_length its).symm, its, k, rfl⟩

/-- What a commit answers, and what it leaves. -/
def cmtE (K : List Itm) (s : Int) (cbs : List Int) : Int := if s < 1 then 6 else if 256 ≤ K.length ∨ 256 < cbs.length then 5 else 0
def cmtK (K : List Itm) (s : Int) (cbs : List Int) : List Itm := if s < 1 then K else if 256 ≤ K.length ∨ 256 < cbs.length then K else K ++ [⟨s, undef, cbs⟩]
theorem pcommit_any (B p : Nat) (iv now s : Int) (K : List Itm) (cb : Value) (cbs : List Int) (w : World) (k : PClk w B p iv now K) (hs : i64R s)
    (hcb : Src w 1 cb cbs.length (cbs.map (Value.int .u32))) (hm : cbs.length ≤ 9223372036854775807) (hz : ∀ z ∈ cbs, 0 ≤ z ∧ z < 4294967296) :
    Calls Try.prog 21 #[.pointer (some ⟨p, 0, none⟩), .int .i64 s, cb] w fun e w' => e = .returned (.int .i64 (cmtE K s cbs)) ∧ FrT B [78, 84] w w' ∧ PClk w' B p iv now (cmtK K s cbs) := by
  obtain ⟨qv, its, k, rfl⟩ := k
  unfold cmtE cmtK i64R at *
  by_cases h1 : s < 1
  · rw [if_pos h1, if_pos h1]
    refine (pcommit_range p iv s cb w (clk_facts k).1 k.ivr.1 h1).mono ?_
    rintro e w' ⟨rfl, rfl⟩
    exact ⟨rfl, FrT.refl _ _ _, qv, its, k, rfl⟩
  · rw [if_neg h1, if_neg h1, nrm_length]
    by_cases h2 : 256 ≤ its.length ∨ 256 < cbs.length
    · rw [if_pos h2, if_pos h2]
      have hcf : ∃ ad c, cb = .slice ad cbs.length c := by
        rcases hcb.2.2 with ⟨rfl, h0⟩ | ⟨ad, c, rfl, _⟩
        · exact ⟨_, _, by rw [h0]⟩
        · exact ⟨_, _, rfl⟩
      obtain ⟨ca, cc, rfl⟩ := hcf
      refine (pcommit_limit B p iv now s qv its ca _ cc w k (by omega) h2 hm).mono ?_
      rintro e w' ⟨rfl, rfl⟩
      exact ⟨rfl, FrT.refl _ _ _, qv, its, k, rfl⟩
    · rw [if_neg h2, if_neg h2]
      refine (pcommit_ok B p iv now s qv its cb cbs w k (by omega) (by omega) hcb (by omega) hz).mono ?_
      rintro e w' ⟨rfl, hf, qv', cv', k'⟩
      exact ⟨rfl, hf, qv', _, k', by rw [nrm_append]; rfl⟩
theorem rcommit_any (iv last s : Int) (ad : Option Addr) (n c : Nat) (K : List Itm) (cb : Value) (cbs : List Int) (w : World) (k : RQ w ad n c K) (hs : i64R s)
    (hcb : Src w 1 cb cbs.length (cbs.map (Value.int .u32))) (hm : cbs.length ≤ 9223372036854775807) (hz : ∀ z ∈ cbs, 0 ≤ z ∧ z < 4294967296) :
    Calls Try.prog 27 #[rclk true iv last (.slice ad n c), .int .i64 s, cb] w fun e w' => ∃ ad' n' c', e = .returned (.tuple #[rclk true iv last (.slice ad' n' c'), .int .i64 (cmtE K s cbs)]) ∧ Below w.heap.size w w' ∧ RQ w' ad' n' c' (cmtK K s cbs) := by
  have hl := k.len
  have k0 := k
  obtain ⟨hn, its, k, rfl⟩ := k
  unfold cmtE cmtK i64R at *
  by_cases h1 : s < 1
  · rw [if_pos h1, if_pos h1]
    refine (rcommit_range iv last s ad n c cb w h1).mono ?_
    rintro e w' ⟨rfl, hb⟩
    exact ⟨_, _, _, rfl, hb, k0.below hb⟩
  · rw [if_neg h1, if_neg h1]
    by_cases h2 : 256 ≤ (nrm its).length ∨ 256 < cbs.length
    · rw [if_pos h2, if_pos h2]
      have hcf : ∃ ad c, cb = .slice ad cbs.length c := by
        rcases hcb.2.2 with ⟨rfl, h0⟩ | ⟨ad, c, rfl, _⟩
        · exact ⟨_, _, by rw [h0]⟩
        · exact ⟨_, _, rfl⟩
      obtain ⟨ca, cc, rfl⟩ := hcf
      refine (rcommit_limit iv last s ad ca n c _ cc w (by omega) hl.1 (by omega) hm).mono ?_
      rintro e w' ⟨rfl, hb⟩
      exact ⟨_, _, _, rfl, hb, k0.below hb⟩
    · rw [if_neg h2, if_neg h2]
      rw [nrm_length] at h2
      refine (rcommit_ok iv last s _ its cb cbs w k (by omega) (by omega) hcb (by omega) hz).mono ?_
      rintro e w' ⟨qv', cv', rfl, hb, k'⟩
      obtain ⟨a', c', rfl, hq⟩ := k'.rq
      have e1 : nrm (its ++ [⟨s, cv', cbs⟩]) = nrm its ++ [⟨s, undef, cbs⟩] := by rw [nrm_append]; rfl
      rw [e1] at hq ⊢
      exact ⟨_, _, _, rfl, hb, hq⟩
theorem pdiscard_any (B p : Nat) (iv now s : Int) (K : List Itm) (w : World) (k : PClk w B p iv now K) :
    Calls Try.prog 30 #[.pointer (some ⟨p, 0, none⟩), .int .i64 s] w fun e w' => ∃ v, e = .returned v ∧ FrT B [78, 84] w w' ∧ PClk w' B p iv now (keptOf s K) ∧ U32s w' 0 v (goneOf s K) := by
  obtain ⟨qv, its, k, rfl⟩ := k
  refine (pdiscard_ok B p iv now s qv its w k).mono ?_
  rintro e w' ⟨v, qv', rfl, hf, k', hu⟩
  exact ⟨v, rfl, hf, ⟨qv', _, k', nrm_kept s its⟩, by rw [nrm_gone]; exact hu.mono (Nat.zero_le _)⟩
theorem rdiscard_any (md : Bool) (iv last s : Int) (ad : Option Addr) (n c : Nat) (K : List Itm) (w : World) (k : RQ w ad n c K) :
    Calls Try.prog 28 #[rclk md iv last (.slice ad n c), .int .i64 s] w fun e w' => ∃ ad' n' c' v, e = .returned (.tuple #[rclk md iv last (.slice ad' n' c'), v]) ∧ Below w.heap.size w w' ∧ RQ w' ad' n' c' (keptOf s K) ∧ U32s w' 0 v (goneOf s K) := by
  obtain ⟨hn, its, k, rfl⟩ := k
  refine (rdiscard_ok md iv last s _ its w k).mono ?_
  rintro e w' ⟨qv', v, rfl, hb, k', hu⟩
  obtain ⟨a', c', rfl, hq⟩ := k'.rq
  rw [nrm_kept] at hq ⊢
  exact ⟨_, _, _, v, rfl, hb, hq, by rw [nrm_gone]; exact hu⟩
/-- What a tick yields, and what it leaves. -/
def tickO (iv now t : Int) (K : List Itm) : List Dl := if tickT now t < nxt iv now then [] else tickOut iv (nxt iv now) K
def tickK (iv now t : Int) (K : List Itm) : List Itm := if tickT now t < nxt iv now then K else []
theorem ptick_any (B p : Nat) (iv now t : Int) (K : List Itm) (w : World) (k : PClk w B p iv now K) (ht : i64R t) :
    Calls Try.prog 23 #[.pointer (some ⟨p, 0, none⟩), .int .i64 t] w fun e w' => ∃ v, e = .returned v ∧ FrT B [78, 84] w w' ∧ PClk w' B p iv (tickT now t) (tickK iv now t K) ∧ w'.ownsRow 0 48 9 v (tickO iv now t K).length (dlCells (tickO iv now t K)) := by
  obtain ⟨qv, its, k, rfl⟩ := k
  unfold tickO tickK
  by_cases h : tickT now t < nxt iv now
  · rw [if_pos h, if_pos h]
    refine (ptick_still B p iv now t qv its w k ht h).mono ?_
    rintro e w' ⟨rfl, hf, k'⟩
    exact ⟨_, rfl, hf, ⟨qv, its, k', rfl⟩, World.ownsRow_nil _ _ _ _⟩
  · rw [if_neg h, if_neg h]
    refine (ptick_go B p iv now t qv its w k ht (by omega)).mono ?_
    rintro e w' ⟨v, rfl, hf, k', hr⟩
    exact ⟨v, rfl, hf, ⟨_, [], k', rfl⟩, by rw [nrm_tick]; exact ownsRow_mono hr (Nat.zero_le _)⟩
theorem rtick_any (iv last t : Int) (ad : Option Addr) (n c : Nat) (K : List Itm) (w : World) (k : RQ w ad n c K) (hi : 1 ≤ iv ∧ iv ≤ 1000000000) (hlr : 0 ≤ last ∧ last ≤ 4611686018427387904) (ht : i64R t) :
    Calls Try.prog 31 #[rclk true iv last (.slice ad n c), .int .i64 t] w fun e w' => ∃ ad' n' c' v, e = .returned (.tuple #[rclk true iv (tickT last t) (.slice ad' n' c'), v]) ∧ Below w.heap.size w w' ∧ RQ w' ad' n' c' (tickK iv last t K) ∧
      w'.ownsRow 0 48 9 v (tickO iv last t K).length (dlCells (tickO iv last t K)) := by
  have k0 := k
  obtain ⟨hn, its, k, rfl⟩ := k
  have hN := nxt_rng last hi
  have hcl : clampT last = last := by unfold clampT; rw [if_neg (by omega), if_neg (by omega)]
  rw [hcl] at hN
  unfold tickO tickK
  by_cases h1 : clampT t ≤ last
  · have hT : tickT last t = last := by unfold tickT; rw [if_neg (by omega)]
    rw [hT, if_pos hN.1, if_pos hN.1]
    refine (rtick_same iv last t ad n c w ht h1).mono ?_
    rintro e w' ⟨rfl, hb⟩
    exact ⟨_, _, _, _, rfl, hb, k0.below hb, World.ownsRow_nil _ _ _ _⟩
  · have hT : tickT last t = clampT t := by unfold tickT; rw [if_pos (by omega)]
    rw [hT]
    by_cases h : clampT t < nxt iv last
    · rw [if_pos h, if_pos h]
      refine (rtick_still iv last t ad n c w hi hlr ht (by omega) h).mono ?_
      rintro e w' ⟨rfl, hb⟩
      exact ⟨_, _, _, _, rfl, hb, k0.below hb, World.ownsRow_nil _ _ _ _⟩
    · rw [if_neg h, if_neg h]
      refine (rtick_go iv last t _ its w k hi hlr ht (by omega) (by omega)).mono ?_
      rintro e w' ⟨v, rfl, hb, hr⟩
      refine ⟨none, 0, 0, v, rfl, hb, ⟨rfl, [], que_nil _ _ _, rfl⟩, ?_⟩
      rw [nrm_tick]
      exact ownsRow_mono hr (Nat.zero_le _)
end Go.Proofs.Ytijfldgkmbhdoaa
