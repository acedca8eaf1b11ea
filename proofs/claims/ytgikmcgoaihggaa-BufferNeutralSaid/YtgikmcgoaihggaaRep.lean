/- slices.Repeat at one pixel. -/
import Derived.Test.YtgikmcgoaihggaaPut1
import Derived.Lib.Mul64
import Derived.Laws.Bits64b
import Derived.IntWalk
import Derived.Test.YtgikmcgoaihggaaTail
import Derived.Deep.QuietTactic
import Derived.BigQuiet
import Derived.Laws.MakeOwn
import Derived.Deep.RegionLaw
set_option linter.unusedVariables false
set_option linter.unusedSimpArgs false
namespace Go.Proofs.Ytgikmcgoaihggaa
open Go.RowKit Go.Sort Go.Lib
attribute [local go_sem ↓] Go.wp_at_zero Go.wp_at_succ

theorem maskM (a : Nat) (ha : a < 18446744073709551616) : bits .and .u64 (a : Int) 4294967295 = ((a % 4294967296 : Nat) : Int) := by
  have h := bits_and_u64_nat a 4294967295 ha (by omega)
  have e : a &&& 4294967295 = a % 4294967296 := Nat.and_two_pow_sub_one_eq_mod a 32
  rw [e] at h
  exact h
theorem divM (a : Nat) : (a : Int) / 4294967296 = ((a / 4294967296 : Nat) : Int) := by omega
theorem mulM (a b : Nat) : (a : Int) * (b : Int) = ((a * b : Nat) : Int) := (Int.natCast_mul a b).symm
theorem addM (a b : Nat) : (a : Int) + (b : Int) = ((a + b : Nat) : Int) := (Int.natCast_add a b).symm
theorem wrapM1 (a : Nat) (ha : a < 18446744073709551616) : IntKind.u64.wrap (a : Int) = (a : Int) := by rw [IntKind.wrap_u64]; omega
theorem wrapM2 (a : Nat) : IntKind.u64.wrap (a : Int) = ((a % 18446744073709551616 : Nat) : Int) := by rw [IntKind.wrap_u64]; omega
set_option maxHeartbeats 2000000 in
theorem bmul64_any (x y : Nat) (hx : x < 18446744073709551616) (hy : y < 18446744073709551616) (w : World) :
    Calls Try.prog 81 #[.int .u64 x, .int .u64 y] w fun e w' => e = .returned (.tuple #[.int .u64 ((x * y / 18446744073709551616 : Nat) : Int), .int .u64 ((x * y % 18446744073709551616 : Nat) : Int)]) ∧ w = w' := by
  obtain ⟨bd, bt, bw, hhi⟩ := Lib.mul64_hi x y hx hy
  have ba := Lib.half_mul_le (a := x / 4294967296) (b := y / 4294967296) (by omega) (by omega)
  have bb := Lib.half_mul_le (a := x / 4294967296) (b := y % 4294967296) (by omega) (by omega)
  have bc := Lib.half_mul_le (a := x % 4294967296) (b := y / 4294967296) (by omega) (by omega)
  have ba' : x / 4294967296 * (y / 4294967296) < 18446744073709551616 := by omega
  have bb' : x / 4294967296 * (y % 4294967296) < 18446744073709551616 := by omega
  have bc' : x % 4294967296 * (y / 4294967296) < 18446744073709551616 := by omega
  have bh1 : x / 4294967296 * (y / 4294967296) + (x / 4294967296 * (y % 4294967296) + x % 4294967296 * (y % 4294967296) / 4294967296) / 4294967296 < 18446744073709551616 := by omega
  have bh : x / 4294967296 * (y / 4294967296) + (x / 4294967296 * (y % 4294967296) + x % 4294967296 * (y % 4294967296) / 4294967296) / 4294967296 + ((x / 4294967296 * (y % 4294967296) + x % 4294967296 * (y % 4294967296) / 4294967296) % 4294967296 + x % 4294967296 * (y / 4294967296)) / 4294967296 < 18446744073709551616 := by omega
  go_enter Try.func81, Try.ntmps81
  go_wp2
  simp only [maskM x hx, maskM y hy, divM, mulM, addM, wrapM1 _ bd, wrapM1 _ bb', wrapM1 _ bt, maskM _ bt, wrapM1 _ bc', wrapM1 _ bw, wrapM1 _ ba', wrapM1 _ bh1, wrapM1 _ bh, wrapM2 (x * y)]
  rw [hhi]
  go_ret2
  exact ⟨rfl, rfl⟩
theorem bmul_any (x y : Nat) (hx : x < 18446744073709551616) (hy : y < 18446744073709551616) (w : World) :
    Calls Try.prog 73 #[.int .u64 x, .int .u64 y] w fun e w' => e = .returned (.tuple #[.int .u64 ((x * y / 18446744073709551616 : Nat) : Int), .int .u64 ((x * y % 18446744073709551616 : Nat) : Int)]) ∧ w = w' := by
  have hC := fun W => bmul64_any x y hx hy W
  generalize ((x * y / 18446744073709551616 : Nat) : Int) = hi at *
  generalize ((x * y % 18446744073709551616 : Nat) : Int) = lo at *
  have HC := Lib.hid hC
  clear hC
  go_enter Try.func73, Try.ntmps73
  go_wp2_with fail
  refine (HC.out _).mono ?_; rintro e w' ⟨rfl, rfl⟩
  go_wp2_with fail
  go_ret2
  exact ⟨rfl, rfl⟩
theorem Try.inf43 : (Try.prog.info? 43).map (fun i => (i.zero, i.size, i.bytes)) = some (some (px 0 0 0 0), 4, 4) := by kernel_rfl
theorem pxCells_same (n : Nat) (z : Int) : pxCells (List.replicate n ⟨z, z, z, z⟩) = List.replicate (n * 4) (.int .u8 z) := by
  unfold pxCells
  induction n with
  | zero => rfl
  | succ n ih =>
    rw [List.replicate_succ, List.flatMap_cons, ih, show (n + 1) * 4 = n * 4 + 1 + 1 + 1 + 1 by omega]
    simp only [List.replicate_succ, pxCell, List.cons_append, List.nil_append]
theorem made_px (n : Nat) : (madeCells (px 0 0 0 0).cells (n * 4)).toList = pxCells (List.replicate n px0) := by
  unfold px0
  rw [pxCells_same]
  refine List.eq_replicate_iff.2 ⟨by simp [madeCells], fun b hb => ?_⟩
  unfold madeCells at hb
  simp only [Array.toList_map, List.mem_map] at hb
  obtain ⟨i, _, rfl⟩ := hb
  show (#[.int .u8 0, .int .u8 0, .int .u8 0, .int .u8 0] : Array Value)[i % 4]! = _
  have h : i % 4 = 0 ∨ i % 4 = 1 ∨ i % 4 = 2 ∨ i % 4 = 3 := by omega
  rcases h with h | h | h | h <;> rw [h] <;> rfl
/-- So many of the pixel, then empty ones. -/
def repM (P : Px) (n m : Nat) : List Px := List.replicate m P ++ List.replicate (n - m) px0
theorem repM_len {P : Px} {n m : Nat} (h : m ≤ n) : (repM P n m).length = n := by unfold repM; simp; omega
theorem repM_step {P : Px} {n m k : Nat} (h : m + k ≤ n) : (repM P n m).take m ++ List.replicate k P ++ (repM P n m).drop (m + k) = repM P n (m + k) := by
  unfold repM
  rw [List.take_left' (by simp), List.drop_append, List.length_replicate, List.drop_of_length_le (by simp), List.nil_append, List.drop_replicate, show m + k - m = k by omega, show n - m - k = n - (m + k) by omega]
  congr 1
  rw [List.replicate_append_replicate]
theorem repM_take {P : Px} {n m k : Nat} (hk : k ≤ m) : (repM P n m).take k = List.replicate k P := by
  unfold repM
  rw [List.take_append_of_le_length (by simp; exact hk), List.take_replicate, Nat.min_eq_left hk]
theorem step_copy_wide {P : Program} {ops : Array Oper} {o : Oper} {a : Act} {w : World} {K : Act → World → Prop} {Q : Exit → Act → World → Prop} {E : Prop} (hgd : o.guard = none) (d s : Operand) (dT sT : TypeId)
    (ho : o.op = .call { callee := .builtin .copy, args := #[d, s], argTypes := #[dT, sT] }) (elem : TypeId) (k : Nat) (hu : P.underlying dT = some (.slice elem)) (hsz : (P.info? elem).map (·.size) = some k)
    (g off dLen dCap : Nat) (ad : Addr) (sLen sCap : Nat) (hd : a.eval d = .slice (some ⟨g, off, none⟩) dLen dCap) (hs : a.eval s = .slice (some ad) sLen sCap)
    (cur : Array Value) (t : TypeId) (hg : w.heap[g]? = some (.cells cur t (0, 0))) (cs : List Value) (hn : cs.length = Nat.min sLen dLen * k)
    (hsrc : ∀ j v, cs[j]? = some v → w.cell? (ad.add j) = some v) (hfit : off + cs.length ≤ cur.size) (h1 : ∀ v ∈ cs, v.oneCell' = true)
    (h : ∀ w', w' = w.setRow g (cur.toList.take off ++ (cs ++ cur.toList.drop (off + cs.length))).toArray → K (a.put o.dst (goInt (Nat.min sLen dLen))) w') :
    if Region.wanted o (yielded ops a.tmps) = true then Oper.wp P o a w K Q else E := by
  have hw : Region.wanted o (yielded ops a.tmps) = true := by simp [Region.wanted, hgd]
  rw [if_pos hw]
  have hrun := run_copy_wide (P := P) w dT sT o.type elem k g off dLen dCap ad sLen sCap cur t cs hu hsz hg hn hsrc hfit h1
  unfold Oper.wp
  simp [execOp, ho, resolve, invoke, builtin, hd, hs, hrun, Result.andThen]
  exact h _ (by simp)
theorem rdp_src {w : World} {b off : Nat} {ps : List Px} (h : Rdp w (some ⟨b, off, none⟩) ps) (hp : 0 < ps.length) : ∀ j v, (pxCells ps)[j]? = some v → w.cell? ((⟨b, off, none⟩ : Addr).add j) = some v := by
  have hsrc := (h.src (c := 0) (fun h => by omega)).2.2
  rcases hsrc with ⟨h0, _⟩ | ⟨ad, c', h0, hc⟩
  · cases h0
  · simp only [Value.slice.injEq, Option.some.injEq] at h0
    obtain ⟨rfl, _, _⟩ := h0
    exact hc
set_option maxRecDepth 100000 in
set_option maxHeartbeats 2000000 in
theorem srepeat_any (b off c n : Nat) (P : Px) (w : World) (hr : Rdp w (some ⟨b, off, none⟩) [P]) (hb : b < w.heap.size) (hn : 1 ≤ n ∧ n ≤ 65536) :
    Calls Try.prog 64 #[.slice (some ⟨b, off, none⟩) 1 c, .int .i64 n] w (Own1 w (List.replicate n P)) := by
  have hM : ∀ W, Calls Try.prog 73 #[.int .u64 1, .int .u64 n] W fun e w' => e = .returned (.tuple #[.int .u64 0, .int .u64 n]) ∧ W = w' := fun W => by
    have h := bmul_any 1 n (by omega) (by omega) W
    rw [Nat.one_mul, Nat.div_eq_of_lt (by omega), Nat.mod_eq_of_lt (by omega)] at h
    exact h
  have HM := Lib.hid hM
  obtain ⟨iu, hi1, hi2, hi3, hi4⟩ := info_parts Try.inf43
  obtain ⟨n1, n2⟩ := hn
  have HR := Lib.hid hr
  clear hM hr
  go_enter Try.func64, Try.ntmps64
  go_wp2_with fail
  refine (HM.out _).mono ?_; rintro e w' ⟨rfl, rfl⟩
  have hmin : Nat.min 1 n = 1 := Nat.min_eq_left n1
  have HN := Lib.hid (show (pxCells [P]).length = Nat.min 1 n * 4 by rw [hmin, pxCells_length]; rfl)
  go_wp2_with (first
    | (at_make; refine wpList_make_full _ rfl _ _ 25 rfl w.heap.size 43 iu (px 0 0 0 0) 4 Try.underlying25 hi1 hi2 hi3 _ _ _ _ n rfl rfl (by omega) (by omega) (by rw [hi4]; omega) (by simp only [maxLen]; omega) (by simp) ?_; intro w2 hr2 hg2; rw [made_px] at hr2; have hB2 : Below w.heap.size w w2 := (((FrT.refl w.heap.size [43] w).grown (World.ownsRow_nil w w.heap.size 43 4) hg2 (.inr (Nat.le_refl _)))).toBelow (Nat.le_refl _); obtain ⟨cur, hg, hfit, h1, h2⟩ := OwnP.splice hr2 (by simp) (o := 0) (ss := [P]) (show 0 + 1 ≤ n by omega); have HB2 := Lib.hid hB2; have HG := Lib.hid hg; have HFT := Lib.hid hfit; have H1 := Lib.hid h1; have H2 := Lib.hid h2; have HSS := Lib.hid (rdp_src (HR.out.below hB2) (Nat.lt_succ_self 0)); clear hr2 hg2 hB2 hg hfit h1 h2)
    | (with_reducible refine wpList_copy_wide rfl (.tmp 31) (.tmp 32) 25 25 rfl 43 4 Try.underlying25 (by kernel_rfl) w.heap.size 0 n n ⟨b, off, none⟩ 1 c rfl rfl cur 43 HG.out (pxCells [P]) HN.out HSS.out HFT.out (pxCells_one [P]) ?_))
  have hI0 : World.ownsRow _ w.heap.size 43 4 (.slice (some ⟨w.heap.size, 0, none⟩) n n) n (pxCells (repM P n 1)) ∧ Below w.heap.size w _ := ⟨by have h := H1.out; rw [show (List.replicate n px0).take 0 ++ [P] ++ (List.replicate n px0).drop (0 + [P].length) = repM P n 1 by unfold repM; simp] at h; exact h, HB2.out.trans (H2.out.toBelow HB2.out.size)⟩
  have HI0 := Lib.hid hI0
  clear hI0 H1 H2 HG HFT HSS
  go_loopg [8] (n - 1) (fun k s8 wr => ∃ m : Nat, k = n - m ∧ 1 ≤ m ∧ m ≤ n ∧ s8 = .int .i64 m ∧ wr.ownsRow w.heap.size 43 4 (.slice (some ⟨w.heap.size, 0, none⟩) n n) n (pxCells (repM P n m)) ∧ Below w.heap.size w wr)
  case atStart => exact ⟨1, by omega, by omega, by omega, by first | rfl | simp [goInt], HI0.out⟩
  case round =>
    obtain ⟨m, hk, hm1, hm, rfl, hO, hB⟩ := hrel
    by_cases hlt : m < n
    · obtain ⟨k, hkk⟩ : ∃ k, Nat.min m (n - m) = k := ⟨_, rfl⟩
      have hk2 : 1 ≤ k ∧ k ≤ m ∧ k ≤ n - m := by rw [← hkk]; exact ⟨Nat.le_min.2 ⟨hm1, by omega⟩, Nat.min_le_left _ _, Nat.min_le_right _ _⟩
      have hO' : wr.drew.ownsRow w.heap.size 43 4 (.slice (some ⟨w.heap.size, 0, none⟩) n n) n (pxCells (repM P n m)) := hO
      have hB' : Below w.heap.size w wr.drew := hB.drew
      obtain ⟨cur, hg, hfit, h1, h2⟩ := OwnP.splice hO' (repM_len hm) (o := m) (ss := List.replicate k P) (by rw [List.length_replicate]; omega)
      rw [List.length_replicate, repM_step (by omega)] at h1
      have hln : (pxCells (List.replicate k P)).length = Nat.min m (n - m) * 4 := by rw [pxCells_length, List.length_replicate, hkk]
      have hsr : ∀ j v, (pxCells (List.replicate k P))[j]? = some v → wr.drew.cell? ((⟨w.heap.size, 0, none⟩ : Addr).add j) = some v := by
        intro j v hj
        rw [Addr.add_lit, Nat.zero_add]
        have hjl := (List.getElem?_eq_some_iff.1 hj).1
        rw [pxCells_length, List.length_replicate] at hjl
        rw [hO'.cellAt j (by omega), ← hj, ← repM_take (n := n) (m := m) hk2.2.1, pxCells_take (by rw [repM_len hm]; omega), List.getElem?_take_of_lt hjl]
      have HG := Lib.hid hg
      have HFT := Lib.hid hfit
      have H1 := Lib.hid h1
      have H2 := Lib.hid (hB'.trans (h2.toBelow hB'.size))
      have HLN := Lib.hid hln
      have HSR := Lib.hid hsr
      have HK := Lib.hid hkk
      have c1 : (0 : Int) ≤ (m : Int) := by omega
      have c2 : (m : Int) ≤ (n : Int) := by omega
      have c3 : ¬ (m : Int) = (n : Int) := by omega
      have c4 : ¬ m = n := by omega
      have c5 : ¬ n = m := by omega
      clear hg hfit h1 h2 hln hsr hO hB hO' hB' HI0 hkk
      go_wp2_with fail
      go_region_law (refine step_copy_wide (by rfl) (.tmp 41) (.tmp 44) 25 25 (by rfl) 43 4 Try.underlying25 (by kernel_rfl) w.heap.size (m * 4) (n - m) (n - m) ⟨w.heap.size, 0, none⟩ m n (by go_simp) (by go_simp) cur 43 HG.out (pxCells (List.replicate k P)) HLN.out HSR.out HFT.out (pxCells_one _) ?_; intro w7 hw7; have H17 := Lib.hid (show World.ownsRow w7 w.heap.size 43 4 (.slice (some ⟨w.heap.size, 0, none⟩) n n) n (pxCells (repM P n (m + k))) from hw7 ▸ H1.out); have H27 := Lib.hid (show Below w.heap.size w w7 from hw7 ▸ H2.out); rw [HK.out]; clear hw7)
      all_goals
        go_wp2_with fail
        go_roundg (n - (m + k))
        case measure => omega
        case rel => exact ⟨m + k, by omega, by omega, by omega, by first | rfl | (simp [goInt]; done) | (simp [goInt]; exact IntWalk.i64_in _ (by omega)), H17.out, H27.out⟩
    · obtain rfl : n = m := by omega
      have HO := Lib.hid hO
      have HB := Lib.hid hB
      clear hO hB HI0
      go_wp2_with fail
      go_ret
      refine ⟨_, rfl, HB.out, ?_⟩
      have h := HO.out
      unfold OwnP
      rw [List.length_replicate]
      unfold repM at h
      simp at h
      exact h
end Go.Proofs.Ytgikmcgoaihggaa
