/- PresentBackwards: the walk. -/
import Derived.Test.YtijfldgkmbhdoaaLimW
import Derived.Test.YtijfldgkmbhdoaaRd
import Derived.Test.YtijfldgkmbhdoaaNextW
set_option linter.unusedVariables false
set_option linter.unusedSimpArgs false
namespace Go.Proofs.Ytijfldgkmbhdoaa
open Go.RowKit
attribute [local go_sem ↓] Go.wp_at_zero Go.wp_at_succ

theorem clampT_idem (t : Int) : clampT (clampT t) = clampT t := by
  have h := clampT_rng t
  generalize clampT t = c at *
  unfold clampT
  rw [if_neg (by omega), if_neg (by omega)]
theorem div_same {iv a b : Int} (h : 1 ≤ iv) (h0 : 0 ≤ a) (h1 : a ≤ b) (h2 : b < (a / iv + 1) * iv) : b / iv = a / iv := by
  have g1 : a / iv ≤ b / iv := Int.ediv_le_ediv (by omega) h1
  have g2 : b / iv < a / iv + 1 := Int.ediv_lt_of_lt_mul (by omega) h2
  omega
theorem div_more {iv a b : Int} (h : 1 ≤ iv) (h2 : (a / iv + 1) * iv ≤ b) : a / iv < b / iv := by
  have : a / iv + 1 ≤ b / iv := (Int.le_ediv_iff_mul_le (by omega)).2 h2
  omega
theorem nxt_clamp (iv t : Int) : nxt iv (clampT t) = nxt iv t := by unfold nxt; rw [clampT_idem]
/-- The times so far: the latest one. -/
def maxT (L t : Int) : Int := if L < t then t else L
theorem tickT_max (L t : Int) (hL : 0 ≤ L) : tickT (clampT L) t = clampT (maxT L t) := by
  unfold tickT maxT clampT
  split <;> split <;> (try split) <;> (try split) <;> (try split) <;> (try split) <;> omega

set_option maxRecDepth 100000 in
set_option maxHeartbeats 4000000 in
theorem presentbackwards_bad (nm : ByteArray) (wd ht rf sc tr x y e : Int) (A : Option Addr) (n c : Nat) (w : World) (hsz : nm.size ≤ 9223372036854775807) (h : chkIs nm wd ht rf sc tr x y e) (he : e ≠ 0) :
    Calls Try.prog 6 #[outv nm wd ht rf sc tr x y, .slice A n c] w fun e w' => e = .returned (.bool true) ∧ Below w.heap.size w w' := by
  have hr := chk_rng h
  have he1 : (e != 0) = true := by simpa using he
  go_enter Try.func6, Try.ntmps6
  go_wp2_with fail
  refine (pnew_bad _ _ _ _ _ _ _ _ e _ hsz h he).mono ?_; rintro e' w1 ⟨rfl, hb_w1⟩
  have hB1 : Below w.heap.size w w1 := bon (by (with_reducible repeat (first | assumption | exact Below.refl _ _ | refine Below.setCell ?_ (by first | omega | (simp; done) | (simp; omega)) _ | refine Below.drew ?_ | refine bdrewN ?_ _ | refine Below.alloc ?_ (by first | omega | (simp; done) | (simp; omega)) _))) (by simp) hb_w1
  clear hb_w1
  go_wp2_with fail
  refine (ex30_true _).mono ?_; rintro e' w3 ⟨rfl, hb3⟩
  have hB3 := bon hB1 hB1.size hb3
  clear hb3
  go_wp2_with fail
  go_ret
  exact ⟨rfl, hB3⟩
set_option maxRecDepth 100000 in
set_option maxHeartbeats 4000000 in
theorem presentbackwards_long (nm : ByteArray) (wd ht rf sc tr x y : Int) (A : Option Addr) (n c : Nat) (w : World) (hsz : nm.size ≤ 9223372036854775807) (h : chkIs nm wd ht rf sc tr x y 0) (hn : 60 < n ∧ n ≤ 9223372036854775807) :
    Calls Try.prog 6 #[outv nm wd ht rf sc tr x y, .slice A n c] w fun e w' => e = .returned (.bool true) ∧ Below w.heap.size w w' := by
  go_enter Try.func6, Try.ntmps6
  go_wp2_with fail
  refine (pnew_ok _ _ _ _ _ _ _ _ _ hsz h).mono ?_; rintro e' w1 ⟨p, rfl, hb_w1, k1⟩
  have hB1 : Below w.heap.size w w1 := bon (by (with_reducible repeat (first | assumption | exact Below.refl _ _ | refine Below.setCell ?_ (by first | omega | (simp; done) | (simp; omega)) _ | refine Below.drew ?_ | refine bdrewN ?_ _ | refine Below.alloc ?_ (by first | omega | (simp; done) | (simp; omega)) _))) (by simp) hb_w1
  clear hb_w1 k1
  go_wp2_with fail
  refine (ex30_true _).mono ?_; rintro e' w3 ⟨rfl, hb3⟩
  have hB3 := bon hB1 hB1.size hb3
  clear hb3
  go_wp2_with fail
  go_ret
  exact ⟨rfl, hB3⟩
theorem pseq_is {w : World} {B p : Nat} {iv now : Int} {qv : Value} {its : List Itm} (k : Clk w B p iv now qv its) {m : Int} (h : now / iv = m) :
    Calls Try.prog 24 #[.pointer (some ⟨p, 0, none⟩)] w fun e w' => e = .returned (.int .i64 m) ∧ Below w.heap.size w w' := by
  subst h
  exact psequence_ok p iv now w (clk_facts k).1 (clk_facts k).2 k.ivr k.nowr
theorem bare_append {its : List Itm} {s : Int} {cv : Value} (h : ∀ x ∈ its, x.cbs = []) : ∀ x ∈ its ++ [⟨s, cv, []⟩], x.cbs = [] := by
  intro x hx
  rcases List.mem_append.1 hx with hx | hx
  · exact h x hx
  · simp only [List.mem_singleton] at hx; subst hx; rfl
def BackR (w : World) (B p : Nat) (iv L m : Int) (j : Nat) (wr : World) : Prop :=
  0 ≤ L ∧ L < 9223372036854775808 ∧ m = clampT L / iv ∧ FrT w.heap.size [78, 84] w wr ∧ ∃ qv its, Clk wr B p iv (clampT L) qv its ∧ its.length ≤ j ∧ ∀ x ∈ its, x.cbs = []
set_option maxRecDepth 100000 in
set_option maxHeartbeats 4000000 in
theorem presentbackwards_run (nm : ByteArray) (wd ht rf sc tr x y : Int) (A : Option Addr) (zs : List Int) (c : Nat) (w : World) (hsz : nm.size ≤ 9223372036854775807) (h : chkIs nm wd ht rf sc tr x y 0) (hn : zs.length ≤ 60)
    (hr : Rd w .i64 A zs) (hz : ∀ z ∈ zs, i64R z) :
    Calls Try.prog 6 #[outv nm wd ht rf sc tr x y, .slice A zs.length c] w fun e w' => e = .returned (.bool true) ∧ Below w.heap.size w w' := by
  obtain ⟨ha, hrr, hp⟩ := chk_zero h
  have hi := ivl_rng ⟨hrr.2.2.1, hrr.2.2.2⟩
  obtain ⟨n, hzn⟩ : ∃ n, zs.length = n := ⟨_, rfl⟩
  rw [hzn] at hn ⊢
  have HZN := Lib.hid hzn
  have HRD := Lib.hid hr
  have HZR := Lib.hid hz
  clear hzn hr hz ha hrr hp
  go_enter Try.func6, Try.ntmps6
  go_wp2_with fail
  refine (pnew_ok _ _ _ _ _ _ _ _ _ hsz h).mono ?_; rintro e' w1 ⟨p, rfl, hb_w1, k1⟩
  have hB1 : Below w.heap.size w w1 := bon (by (with_reducible repeat (first | assumption | exact Below.refl _ _ | refine Below.setCell ?_ (by first | omega | (simp; done) | (simp; omega)) _ | refine Below.drew ?_ | refine bdrewN ?_ _ | refine Below.alloc ?_ (by first | omega | (simp; done) | (simp; omega)) _))) (by simp) hb_w1
  have F1 : FrT w.heap.size [78, 84] w w1 := FrT.ofBelow hB1 _ _
  generalize ivl rf = iv at *
  generalize hBB : (w.alloc (.cells #[.string nm, .int .i64 wd, .int .i64 ht, .int .i64 rf, .int .i64 sc, .int .i64 tr, .int .i64 x, .int .i64 y] 30)).heap.size = B at k1
  have hBw : w.heap.size ≤ B := by rw [← hBB]; simp
  have K1 := Lib.hid k1
  clear hb_w1 k1 hBB hB1
  go_wp2_with fail
  go_loopg [7, 8, 9] n (fun k s7 s8 s9 wr => ∃ (j : Nat) (L m : Int), k = n - j ∧ j ≤ n ∧ s9 = .int .i64 j ∧ s7 = .int .i64 L ∧ s8 = .int .i64 m ∧ BackR w B p iv L m j wr)
  case atStart => exact ⟨0, 0, 0, by omega, by omega, by first | rfl | simp, rfl, rfl, by omega, by omega, by simp [clampT], F1, _, [], K1.out, by simp, by simp⟩
  case round =>
    obtain ⟨j, L, m, hk, hj, rfl, rfl, rfl, hL0, hL1, hm, F, qv, its, k, hil, hits⟩ := hrel
    have K := Lib.hid k
    have HM := Lib.hid hm
    have HI := Lib.hid hits
    clear k hm hits
    by_cases hlt : j < n
    · obtain ⟨b, off, hA, hbl, hcz⟩ := HRD.out j (by rw [HZN.out]; omega)
      have htr := HZR.out _ (List.getElem_mem (by rw [HZN.out]; omega : j < zs.length))
      obtain ⟨t, ht⟩ : ∃ t, zs[j]'(by rw [HZN.out]; omega) = t := ⟨_, rfl⟩
      rw [ht] at hcz htr
      unfold i64R at htr
      clear ht
      subst hA
      obtain ⟨r, hrr⟩ : ∃ r, its.length = r := ⟨_, rfl⟩
      rw [hrr] at hil
      have HR := Lib.hid hrr
      have HCZ := Lib.hid hcz
      clear hrr hcz
      go_wp2_with fail
      refine (pcommit_ok B p iv (clampT L) 1 _ _ _ [] _ K.out (by omega) (by rw [HR.out]; omega) (Src.nil _ _) (by decide) (by decide)).mono ?_; rintro e w6 ⟨rfl, f6, qv6, cv6, k6⟩
      have F6 := F.trans (f6.mono hBw (fun _ h => h))
      have z6 := ((F6.toBelow (Nat.le_refl _)).cell (p := ⟨b, off + j, none⟩) hbl).trans HCZ.out
      have K6 := Lib.hid k6
      clear f6 k6
      go_wp2_with fail
      refine (ppending_ok _ _ _ _ _ _ _ K6.out).mono ?_; rintro e w7 ⟨rfl, rfl⟩
      rw [show (its ++ [(⟨1, cv6, []⟩ : Itm)]).length = r + 1 by rw [List.length_append, HR.out]; rfl]
      go_wp2_with fail
      have hN := nxt_rng (clampT L) hi
      have hnx : nxt iv (clampT L) = (clampT L / iv + 1) * iv := by unfold nxt; rw [clampT_idem]
      by_cases hst : tickT (clampT L) t < nxt iv (clampT L)
      · refine (ptick_still B p iv (clampT L) t _ _ _ K6.out htr hst).mono ?_; rintro e w7 ⟨rfl, f7, k7⟩
        have F7 := F6.trans (f7.mono hBw (fun _ h => h))
        have z7 := ((F7.toBelow (Nat.le_refl _)).cell (p := ⟨b, off + j, none⟩) hbl).trans HCZ.out
        rw [tickT_max _ _ hL0] at k7 hst
        have hS : clampT (maxT L t) / iv = m := by
          rw [HM.out]
          refine div_same hi.1 (clampT_rng L).1 ?_ (by rw [← hnx]; exact hst)
          unfold maxT clampT
          split <;> split <;> (try split) <;> (try split) <;> (try split) <;> omega
        have K7 := Lib.hid k7
        have HS := Lib.hid hS
        clear f7 k7 hS hst hnx hN z6
        by_cases hle : t ≤ L
        · go_wp2_with fail
          refine (ppending_ok _ _ _ _ _ _ _ K7.out).mono ?_; rintro e w7' ⟨rfl, rfl⟩
          rw [show (its ++ [(⟨1, cv6, []⟩ : Itm)]).length = r + 1 by rw [List.length_append, HR.out]; rfl]
          go_wp2_with fail
          refine (pseq_is K7.out HS.out).mono ?_; rintro e w8 ⟨rfl, hb8⟩; have F8 := F7.trans (FrT.ofBelow hb8 _ _); have K8 := Lib.hid (K7.out.below hb8); have z8 := ((F8.toBelow (Nat.le_refl _)).cell (p := ⟨b, off + j, none⟩) hbl).trans HCZ.out; clear hb8
          go_wp2_with fail
          refine (pseq_is K8.out HS.out).mono ?_; rintro e w9 ⟨rfl, hb9⟩; have F9 := F8.trans (FrT.ofBelow hb9 _ _); have K9 := Lib.hid (K8.out.below hb9); have z9 := ((F9.toBelow (Nat.le_refl _)).cell (p := ⟨b, off + j, none⟩) hbl).trans HCZ.out; clear hb9
          go_wp2_with fail
          refine (pseq_is K9.out HS.out).mono ?_; rintro e w10 ⟨rfl, hb10⟩; have F10 := F9.trans (FrT.ofBelow hb10 _ _); have K10 := Lib.hid (K9.out.below hb10); have z10 := ((F10.toBelow (Nat.le_refl _)).cell (p := ⟨b, off + j, none⟩) hbl).trans HCZ.out; clear hb10
          go_wp2_with fail
          refine (pseq_is K10.out HS.out).mono ?_; rintro e w11 ⟨rfl, hb11⟩; have F11 := F10.trans (FrT.ofBelow hb11 _ _); have K11 := Lib.hid (K10.out.below hb11); have z11 := ((F11.toBelow (Nat.le_refl _)).cell (p := ⟨b, off + j, none⟩) hbl).trans HCZ.out; clear hb11
          go_wp2_with fail
          go_roundg (n - (j + 1))
          case measure => omega
          case rel =>
            have e : maxT L t = L := by unfold maxT; rw [if_neg (by omega)]
            refine ⟨j + 1, L, m, by omega, by omega, by first | rfl | simp, rfl, rfl, hL0, hL1, by rw [← e]; exact HS.out.symm, F11, qv6, _, by rw [← e]; exact K11.out, by rw [List.length_append, HR.out]; simp; omega, bare_append HI.out⟩
        · have hlt2 : L < t := by omega
          go_wp2_with fail
          refine (pseq_is K7.out HS.out).mono ?_; rintro e w8 ⟨rfl, hb8⟩; have F8 := F7.trans (FrT.ofBelow hb8 _ _); have K8 := Lib.hid (K7.out.below hb8); have z8 := ((F8.toBelow (Nat.le_refl _)).cell (p := ⟨b, off + j, none⟩) hbl).trans HCZ.out; clear hb8
          go_wp2_with fail
          refine (pseq_is K8.out HS.out).mono ?_; rintro e w9 ⟨rfl, hb9⟩; have F9 := F8.trans (FrT.ofBelow hb9 _ _); have K9 := Lib.hid (K8.out.below hb9); have z9 := ((F9.toBelow (Nat.le_refl _)).cell (p := ⟨b, off + j, none⟩) hbl).trans HCZ.out; clear hb9
          go_wp2_with fail
          refine (pseq_is K9.out HS.out).mono ?_; rintro e w10 ⟨rfl, hb10⟩; have F10 := F9.trans (FrT.ofBelow hb10 _ _); have K10 := Lib.hid (K9.out.below hb10); have z10 := ((F10.toBelow (Nat.le_refl _)).cell (p := ⟨b, off + j, none⟩) hbl).trans HCZ.out; clear hb10
          go_wp2_with fail
          go_roundg (n - (j + 1))
          case measure => omega
          case rel =>
            have e : maxT L t = t := by unfold maxT; rw [if_pos (by omega)]
            refine ⟨j + 1, t, m, by omega, by omega, by first | rfl | simp, rfl, rfl, by omega, by omega, by rw [← e]; exact HS.out.symm, F10, qv6, _, by rw [← e]; exact K10.out, by rw [List.length_append, HR.out]; simp; omega, bare_append HI.out⟩
      · have hge : nxt iv (clampT L) ≤ tickT (clampT L) t := by omega
        have hlt2 : L < t := by
          have h1 := hN.1
          rw [clampT_idem] at h1
          rw [tickT_max _ _ hL0] at hge
          by_cases hc : L < t
          · exact hc
          · have e : maxT L t = L := by unfold maxT; rw [if_neg hc]
            rw [e] at hge
            omega
        have e : maxT L t = t := by unfold maxT; rw [if_pos hlt2]
        refine (ptick_go B p iv (clampT L) t _ _ _ K6.out htr hge).mono ?_; rintro e' w7 ⟨v7, rfl, f7, k7, r7⟩
        have F7 := F6.trans (f7.mono hBw (fun _ h => h))
        have z7 := ((F7.toBelow (Nat.le_refl _)).cell (p := ⟨b, off + j, none⟩) hbl).trans HCZ.out
        rw [tickT_max _ _ hL0, e] at k7 hge
        have e8 : (tickOut iv (nxt iv (clampT L)) (its ++ [⟨1, cv6, []⟩])).length = r + 1 := by
          unfold tickOut
          rw [tickUpto_bare _ _ _ (bare_append HI.out) _ (Nat.le_refl _), List.length_append, HR.out]
          rfl
        rw [e8] at r7
        obtain ⟨a7, c7, hv7, _, _⟩ := slice_len r7
        subst hv7
        obtain ⟨m', hm'⟩ : ∃ m', clampT t / iv = m' := ⟨_, rfl⟩
        have hmm : m < m' := by
          rw [HM.out, ← hm']
          exact div_more hi.1 (by rw [← hnx]; exact hge)
        have hne : (m' == m) = false := by simp; omega
        have hr0 : (((r : Int) + 1) == 0) = false := by simp; omega
        have HS := Lib.hid hm'
        have K7 := Lib.hid k7
        clear f7 k7 r7 e8 hm' hge hnx hN z6 e
        go_wp2_with fail
        refine (pseq_is K7.out HS.out).mono ?_; rintro e w8 ⟨rfl, hb8⟩; have F8 := F7.trans (FrT.ofBelow hb8 _ _); have K8 := Lib.hid (K7.out.below hb8); have z8 := ((F8.toBelow (Nat.le_refl _)).cell (p := ⟨b, off + j, none⟩) hbl).trans HCZ.out; clear hb8
        go_wp2_with fail
        refine (pseq_is K8.out HS.out).mono ?_; rintro e w9 ⟨rfl, hb9⟩; have F9 := F8.trans (FrT.ofBelow hb9 _ _); have K9 := Lib.hid (K8.out.below hb9); have z9 := ((F9.toBelow (Nat.le_refl _)).cell (p := ⟨b, off + j, none⟩) hbl).trans HCZ.out; clear hb9
        go_wp2_with fail
        refine (pseq_is K9.out HS.out).mono ?_; rintro e w10 ⟨rfl, hb10⟩; have F10 := F9.trans (FrT.ofBelow hb10 _ _); have K10 := Lib.hid (K9.out.below hb10); have z10 := ((F10.toBelow (Nat.le_refl _)).cell (p := ⟨b, off + j, none⟩) hbl).trans HCZ.out; clear hb10
        go_wp2_with fail
        go_roundg (n - (j + 1))
        case measure => omega
        case rel =>
          exact ⟨j + 1, t, m', by omega, by omega, by first | rfl | simp, rfl, rfl, by omega, by omega, HS.out.symm, F10, _, [], K10.out, by simp, by simp⟩
    · obtain rfl : n = j := by omega
      go_wp2_with fail
      refine (ex30_true _).mono ?_; rintro e' w3 ⟨rfl, hb3⟩
      have F3 := F.trans (FrT.ofBelow hb3 _ _)
      clear hb3
      go_wp2_with fail
      go_ret
      exact ⟨rfl, F3.toBelow (Nat.le_refl _)⟩
theorem presentbackwards_any (nm : ByteArray) (wd ht rf sc tr x y : Int) (A : Option Addr) (zs : List Int) (c : Nat) (w : World) (hsz : nm.size ≤ 9223372036854775807) (hlc : zs.length ≤ c) (hc : c ≤ 9223372036854775807)
    (hr : Rd w .i64 A zs) (hz : ∀ z ∈ zs, i64R z) :
    Calls Try.prog 6 #[outv nm wd ht rf sc tr x y, .slice A zs.length c] w fun e w' => e = .returned (.bool true) ∧ Below w.heap.size w w' := by
  obtain ⟨e, h⟩ := chk_total nm wd ht rf sc tr x y
  by_cases he : e = 0
  · subst he
    by_cases hn : zs.length ≤ 60
    · exact presentbackwards_run _ _ _ _ _ _ _ _ _ _ _ _ hsz h hn hr hz
    · exact presentbackwards_long _ _ _ _ _ _ _ _ _ _ _ _ hsz h ⟨by omega, by omega⟩
  · exact presentbackwards_bad _ _ _ _ _ _ _ _ e _ _ _ _ hsz h he
end Go.Proofs.Ytijfldgkmbhdoaa
