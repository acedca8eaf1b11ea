/- Discard. -/
import Derived.Test.YtijfldgkmbhdoaaTick2
set_option linter.unusedVariables false
set_option linter.unusedSimpArgs false
namespace Go.Proofs.Ytijfldgkmbhdoaa
open Go.RowKit
attribute [local go_sem ↓] Go.wp_at_zero Go.wp_at_succ

/-- What a Discard leaves, and what it hands back. -/
def keptOf (s : Int) (its : List Itm) : List Itm := its.filter fun x => x.s != s
def goneOf (s : Int) (its : List Itm) : List Int := (its.filter fun x => x.s == s).flatMap (·.cbs)
theorem keptOf_succ {s : Int} {its : List Itm} {j : Nat} {x : Itm} (h : its[j]? = some x) : keptOf s (its.take (j + 1)) = if x.s = s then keptOf s (its.take j) else keptOf s (its.take j) ++ [x] := by
  unfold keptOf
  rw [List.take_add_one, h, List.filter_append]
  by_cases hx : x.s = s
  · simp [hx]
  · simp [hx]
theorem goneOf_succ {s : Int} {its : List Itm} {j : Nat} {x : Itm} (h : its[j]? = some x) : goneOf s (its.take (j + 1)) = if x.s = s then goneOf s (its.take j) ++ x.cbs else goneOf s (its.take j) := by
  unfold goneOf
  rw [List.take_add_one, h, List.filter_append]
  by_cases hx : x.s = s
  · simp [hx]
  · simp [hx]
theorem goneOf_length (s : Int) (its : List Itm) (hc : ∀ x ∈ its, x.cbs.length ≤ 256) : ∀ j, j ≤ its.length → (goneOf s (its.take j)).length ≤ j * 256
  | 0, _ => by simp [goneOf]
  | j + 1, h => by
    have hx : its[j]? = some its[j] := List.getElem?_eq_getElem (by omega)
    rw [goneOf_succ hx]
    have h1 := goneOf_length s its hc j (by omega)
    have h2 := hc _ (List.getElem_mem (by omega : j < its.length))
    have h3 : (j + 1) * 256 = j * 256 + 256 := Nat.succ_mul j 256
    by_cases hxs : its[j].s = s
    · rw [if_pos hxs, List.length_append, h3]
      exact Nat.add_le_add h1 h2
    · rw [if_neg hxs, h3]
      exact Nat.le_trans h1 (Nat.le_add_right _ _)
theorem keptOf_length (s : Int) (its : List Itm) (j : Nat) : (keptOf s (its.take j)).length ≤ j := by
  refine Nat.le_trans (List.length_filter_le _ _) ?_
  rw [List.length_take]
  omega
def Discarded (w : World) (B p : Nat) (iv now s : Int) (its : List Itm) (e : Ending) (w' : World) : Prop :=
  ∃ v qv', e = .returned v ∧ FrT B [78, 84] w w' ∧ Clk w' B p iv now qv' (keptOf s its) ∧ U32s w' w.heap.size v (goneOf s its)
theorem discard_end {w wr : World} {B p : Nat} {iv now s : Int} {qv ov rv : Value} {its : List Itm} (k : Clk w B p iv now qv its) (hB : Below w.heap.size w wr)
    (ro : wr.ownsRow w.heap.size 42 1 ov (goneOf s its).length ((goneOf s its).map (Value.int .u32))) (rr : wr.ownsRow w.heap.size 84 2 rv (keptOf s its).length (itCells (keptOf s its))) :
    FrT B [78, 84] w (wr.setCell ⟨p, 2, none⟩ rv) ∧ Clk (wr.setCell ⟨p, 2, none⟩ rv) B p iv now rv (keptOf s its) ∧ U32s (wr.setCell ⟨p, 2, none⟩ rv) w.heap.size ov (goneOf s its) := by
  have k3 := k.below hB
  have hpl := k.blk.lt
  have hbp := k.base
  have f3 : FrT B [78] wr (wr.setCell ⟨p, 2, none⟩ rv) := (FrT.refl _ _ _).set k3.blk rfl k.base _
  have hsub : ∀ x ∈ keptOf s its, x ∈ its := fun x hx => (List.mem_filter.1 hx).1
  refine ⟨(FrT.ofBelow hB _ _).trans (f3.mono (Nat.le_refl _) (by simp)), ⟨k.base, k3.blk.set 2 _, ⟨ownsRow_mono (f3.row rr (.inl rfl)) (by omega), ?_, ?_, ?_, ?_⟩, k.ivr, k.nowr⟩, ⟨f3.row ro (.inl rfl), ?_⟩⟩
  · exact fun x hx => (k3.que.cbs x (hsub x hx)).row' f3 rfl
  · exact Nat.le_trans (List.length_filter_le _ _) k.que.len
  · exact fun x hx => k.que.clen x (hsub x hx)
  · exact fun x hx => k.que.srng x (hsub x hx)
  · intro z hz
    unfold goneOf at hz
    obtain ⟨x, hx, hz⟩ := List.mem_flatMap.1 hz
    exact (k.que.cbs x (List.mem_filter.1 hx).1).rng z hz
set_option maxRecDepth 100000 in
set_option maxHeartbeats 4000000 in
theorem pdiscard_ok (B p : Nat) (iv now s : Int) (qv : Value) (its : List Itm) (w : World) (k : Clk w B p iv now qv its) :
    Calls Try.prog 30 #[.pointer (some ⟨p, 0, none⟩), .int .i64 s] w (Discarded w B p iv now s its) := by
  obtain ⟨⟨c0, _⟩, ⟨c1, _⟩, c2, f2⟩ := k.blk.c3
  have hpl := k.blk.lt
  obtain ⟨qa, qc, hq, hqc, _⟩ := slice_len k.que.row
  subst hq
  obtain ⟨n, hnl⟩ : ∃ n, its.length = n := ⟨_, rfl⟩
  have hn256 := k.que.len
  rw [hnl] at c2 hn256
  have hi := k.ivr
  have HK := Lib.hid k
  have HNL := Lib.hid hnl
  clear k hnl c1
  go_enter Try.func30, Try.ntmps30
  go_wp2_with (first | (go_at_call 44; refine (pusable_yes _ _ _ c0 hi.1).mono ?_; rintro e w' ⟨rfl, rfl⟩))
  go_loopg [5, 6, 17] n (fun kk s5 s6 s17 wr => ∃ j : Nat, kk = n - j ∧ j ≤ n ∧ s17 = .int .i64 j ∧ Below w.heap.size w wr ∧ wr.ownsRow w.heap.size 42 1 s5 (goneOf s (its.take j)).length ((goneOf s (its.take j)).map (Value.int .u32)) ∧ wr.ownsRow w.heap.size 84 2 s6 (keptOf s (its.take j)).length (itCells (keptOf s (its.take j))))
  case atStart => exact ⟨0, by omega, by omega, by first | rfl | simp, Below.refl _ _, World.ownsRow_nil _ _ _ _, World.ownsRow_nil _ _ _ _⟩
  case round =>
    obtain ⟨j, hk, hj, rfl, hB, hO, hR⟩ := hrel
    have K := (HK.out).carry (FrT.ofBelow hB 0 []) ⟨rfl, rfl, rfl⟩
    obtain ⟨⟨r0, _⟩, ⟨r1, _⟩, r2, r3⟩ := K.blk.c3
    rw [HNL.out] at r2
    have hzr := hB.size
    by_cases hlt : j < n
    · obtain ⟨g, cap, hqf, _, _, hgl, hcl⟩ := K.que.form (by rw [HNL.out]; omega)
      obtain ⟨q0, q1, _⟩ := hcl j (by rw [HNL.out]; omega)
      have hmem : its[j]'(by rw [HNL.out]; omega) ∈ its := List.getElem_mem _
      have U2 := K.que.cbs _ hmem
      have hc256 := HK.out.que.clen _ hmem
      have hX : its[j]? = some (its[j]'(by rw [HNL.out]; omega)) := List.getElem?_eq_getElem _
      obtain ⟨X, hXe⟩ : ∃ X, its[j]'(by rw [HNL.out]; omega) = X := ⟨_, rfl⟩
      rw [hXe] at q0 q1 U2 hc256 hX
      obtain ⟨xs, xv, xc⟩ := X
      simp only at q0 q1 U2 hc256
      obtain ⟨xa, xk, hxv, _, _⟩ := slice_len U2.row
      subst hxv
      simp only [Value.slice.injEq] at hqf
      obtain ⟨rfl, _, rfl⟩ := hqf
      obtain ⟨oa, oc, hoe, _, _⟩ := slice_len hO
      subst hoe
      obtain ⟨ra, rc, hre, _, _⟩ := slice_len hR
      subst hre
      obtain ⟨m, hm⟩ : ∃ m, xc.length = m := ⟨_, rfl⟩
      obtain ⟨on, hon⟩ : ∃ m, (goneOf s (its.take j)).length = m := ⟨_, rfl⟩
      obtain ⟨rn, hrn⟩ : ∃ m, (keptOf s (its.take j)).length = m := ⟨_, rfl⟩
      have hgl2 := goneOf_length s its HK.out.que.clen j (by rw [HNL.out]; omega)
      have hkl2 := keptOf_length s its j
      have hO' := hO
      have hR' := hR
      rw [hon] at hO' hgl2
      rw [hrn] at hR' hkl2
      have hS : Src wr 1 (.slice xa m xk) m (xc.map (Value.int .u32)) := by have := U2.src; rw [hm] at this; exact this
      have hk1 := keptOf_succ (s := s) hX
      have hg1 := goneOf_succ (s := s) hX
      simp only at hk1 hg1
      rw [hm] at q1 hc256
      have HO := Lib.hid hO'
      have HR := Lib.hid hR'
      have HS := Lib.hid hS
      have HM := Lib.hid hm
      have HON := Lib.hid hon
      have HRN := Lib.hid hrn
      rw [hon, hrn]
      clear hX hXe U2 hm hO hR hO' hR' hS hon hrn hcl hmem K
      by_cases hxs : xs = s
      · subst hxs
        rw [if_pos rfl] at hk1 hg1
        have HK1 := Lib.hid hk1
        have HG1 := Lib.hid hg1
        clear hk1 hg1
        go_wp2_with (at_builtin; refine wpList_app _ [42] rfl el_u32 (.tmp 25) (.tmp 27) rfl w.heap.size (.slice oa on oc) on ((goneOf xs (its.take j)).map (Value.int .u32)) rfl (HO.out.alloc _) (.slice xa m xk) m (xc.map (Value.int .u32)) rfl (Src.below ((Below.refl _ _).alloc (Nat.le_refl _) _) HS.out) (by omega) (by decide) (by simp; omega) rfl ?_; intro v1 w1 hr1 hf1; have HR1 := Lib.hid hr1; have HF1 := Lib.hid hf1; clear hr1 hf1)
        obtain ⟨a1, e1, hv1, _, _⟩ := slice_len HR1.out
        subst hv1
        go_roundg (n - (j + 1))
        case measure => omega
        case rel =>
          refine ⟨j + 1, by omega, by omega, by first | rfl | simp, (hB.alloc hB.size _).trans (HF1.out.toBelow (by simp; omega)), ?_, ?_⟩
          · rw [HG1.out, List.map_append, List.length_append, HON.out, HM.out]
            exact HR1.out
          · rw [HK1.out, HRN.out]
            exact HF1.out.row (HR.out.alloc _) (.inl rfl)
      · have hxs1 : (xs == s) = false := by simpa using hxs
        rw [if_neg hxs] at hk1 hg1
        have HK1 := Lib.hid hk1
        have HG1 := Lib.hid hg1
        clear hk1 hg1
        go_wp2_with (at_builtin; refine wpList_app _ [84] rfl el_cmt (.tmp 29) (.tmp 31) rfl w.heap.size (.slice ra rn rc) rn (itCells (keptOf s (its.take j))) rfl ((HR.out.alloc _).alloc _) (.slice (some ⟨wr.heap.size + 1, 0, none⟩) 1 1) 1 [.int .i64 xs, .slice xa m xk] rfl (Src.two (by simp) rfl rfl) (by omega) (by decide) (by simp; omega) rfl ?_; intro v1 w1 hr1 hf1; have HR1 := Lib.hid hr1; have HF1 := Lib.hid hf1; clear hr1 hf1)
        obtain ⟨a1, e1, hv1, _, _⟩ := slice_len HR1.out
        subst hv1
        go_roundg (n - (j + 1))
        case measure => omega
        case rel =>
          refine ⟨j + 1, by omega, by omega, by first | rfl | simp, ((hB.alloc hB.size _).alloc (by simp; omega) _).trans (HF1.out.toBelow (by simp; omega)), ?_, ?_⟩
          · rw [HG1.out, HON.out]
            exact HF1.out.row ((HO.out.alloc _).alloc _) (.inl rfl)
          · have hmm := HM.out
            subst hmm
            rw [HK1.out, itCells_append, List.length_append, HRN.out]
            exact HR1.out
    · obtain rfl : n = j := by omega
      obtain ⟨oa, oc, hoe, _, _⟩ := slice_len hO
      subst hoe
      obtain ⟨ra, rc, hre, _, _⟩ := slice_len hR
      subst hre
      obtain ⟨on, hon⟩ : ∃ m, (goneOf s (its.take n)).length = m := ⟨_, rfl⟩
      obtain ⟨rn, hrn⟩ : ∃ m, (keptOf s (its.take n)).length = m := ⟨_, rfl⟩
      rw [List.take_of_length_le (by rw [HNL.out]; omega)] at hO hR hon hrn
      have HO := Lib.hid hO
      have HR := Lib.hid hR
      rw [List.take_of_length_le (by rw [HNL.out]; omega)]
      have HON := Lib.hid hon
      have HRN := Lib.hid hrn
      rw [hon, hrn]
      clear hO hR K hon hrn
      go_wp2_with fail
      go_ret
      have hon := HON.out
      have hrn := HRN.out
      subst hon
      subst hrn
      exact ⟨_, _, rfl, discard_end HK.out hB HO.out HR.out⟩
end Go.Proofs.Ytijfldgkmbhdoaa
