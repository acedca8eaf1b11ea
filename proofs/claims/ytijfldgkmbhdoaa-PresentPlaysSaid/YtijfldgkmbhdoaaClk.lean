/- The frame clock: what stands in memory for one; its small functions. -/
import Derived.Test.YtijfldgkmbhdoaaMem
import Derived.Test.YtijfldgkmbhdoaaOutB
import Derived.Deep.RegionWith
import Derived.BigQuiet
set_option linter.unusedVariables false
set_option linter.unusedSimpArgs false
namespace Go.Proofs.Ytijfldgkmbhdoaa
open Go.RowKit
attribute [local go_sem ↓] Go.wp_at_zero Go.wp_at_succ

theorem quiet_mine {P : Program} {f : FuncId} {args : Array Value} {w : World} {n : Nat} {v : Value}
    (h : Calls P f args (w.drewN n) fun e w' => e = .returned v ∧ w.drewN n = w') : Calls P f args (w.drewN n) fun e w'' => e = .returned v ∧ ∃ m, w'' = w.drewN m :=
  h.mono fun _ _ ⟨he, hm⟩ => ⟨he, n, hm.symm⟩
/-- A commit: its surface, the slice of its callbacks, the callbacks. -/
structure Itm where
  s : Int
  cv : Value
  cbs : List Int
def itCells (its : List Itm) : List Value := its.flatMap fun x => [.int .i64 x.s, x.cv]
theorem itCells_append (a b : List Itm) : itCells (a ++ b) = itCells a ++ itCells b := by simp [itCells]
theorem itCells_length (a : List Itm) : (itCells a).length = a.length * 2 := by
  unfold itCells
  induction a with
  | nil => rfl
  | cons x l ih => simp only [List.flatMap_cons, List.length_append, ih, List.length_cons, List.length_nil]; omega
theorem itCells_get (a : List Itm) (i : Nat) (h : i < a.length) : (itCells a)[i * 2]? = some (.int .i64 a[i].s) ∧ (itCells a)[i * 2 + 1]? = some a[i].cv := by
  unfold itCells
  induction a generalizing i with
  | nil => simp at h
  | cons x l ih =>
    cases i with
    | zero => simp
    | succ i =>
      have := ih i (by simpa using h)
      simp only [List.flatMap_cons, Nat.add_mul, Nat.one_mul]
      have e1 : i * 2 + 2 = i * 2 + 1 + 1 := rfl
      have e2 : i * 2 + 2 + 1 = (i * 2 + 1) + 1 + 1 := rfl
      simp only [e1, List.cons_append, List.getElem?_cons_succ, List.nil_append, List.getElem_cons_succ]
      exact this

/-- A row of numbers of the call's own. -/
structure U32s (w : World) (B : Nat) (v : Value) (zs : List Int) : Prop where
  row : w.ownsRow B 42 1 v zs.length (zs.map (Value.int .u32))
  rng : ∀ z ∈ zs, 0 ≤ z ∧ z < 4294967296
/-- A queue of commits, whose elements are of type t. -/
structure Que (w : World) (B : Nat) (t : TypeId) (qv : Value) (its : List Itm) : Prop where
  row : w.ownsRow B t 2 qv its.length (itCells its)
  cbs : ∀ x ∈ its, U32s w B x.cv x.cbs
  len : its.length ≤ 256
  clen : ∀ x ∈ its, x.cbs.length ≤ 256
  srng : ∀ x ∈ its, -9223372036854775808 ≤ x.s ∧ x.s < 9223372036854775808
structure Clk (w : World) (B p : Nat) (iv now : Int) (qv : Value) (its : List Itm) : Prop where
  base : B ≤ p
  blk : Blk w p 78 #[.int .i64 iv, .int .i64 now, qv]
  que : Que w B 84 qv its
  ivr : 1 ≤ iv ∧ iv ≤ 1000000000
  nowr : 0 ≤ now ∧ now ≤ 4611686018427387904

theorem U32s.row' {B : Nat} {T : List TypeId} {w w' : World} (h : FrT B T w w') {b : Nat} {v : Value} {zs : List Int} (k : U32s w b v zs) (hc : T.contains 42 = false) : U32s w' b v zs := ⟨h.row k.row (.inl hc), k.rng⟩
theorem U32s.below {w w' : World} (h : Below w.heap.size w w') {b : Nat} {v : Value} {zs : List Int} (k : U32s w b v zs) : U32s w' b v zs := (k.row' (FrT.ofBelow h 0 [])) rfl
theorem U32s.nil (w : World) (B : Nat) : U32s w B (.slice none 0 0) [] := ⟨World.ownsRow_nil _ _ _ _, by simp⟩
theorem U32s.src {w : World} {B : Nat} {v : Value} {zs : List Int} (k : U32s w B v zs) : Src w 1 v zs.length (zs.map (Value.int .u32)) := Src.row k.row (by simp [Value.oneCell'])
theorem U32s.mono {w : World} {B B' : Nat} {v : Value} {zs : List Int} (k : U32s w B v zs) (h : B' ≤ B) : U32s w B' v zs := ⟨ownsRow_mono k.row h, k.rng⟩
theorem Que.carry {B : Nat} {T : List TypeId} {w w' : World} (h : FrT B T w w') {b : Nat} {t : TypeId} {qv : Value} {its : List Itm} (k : Que w b t qv its) (hc : T.contains t = false ∧ T.contains 42 = false) : Que w' b t qv its :=
  ⟨h.row k.row (.inl hc.1), fun x hx => (k.cbs x hx).row' h hc.2, k.len, k.clen, k.srng⟩
theorem Que.below {w w' : World} (h : Below w.heap.size w w') {b : Nat} {t : TypeId} {qv : Value} {its : List Itm} (k : Que w b t qv its) : Que w' b t qv its := k.carry (FrT.ofBelow h 0 []) ⟨rfl, rfl⟩
theorem Que.src {w : World} {B : Nat} {t : TypeId} {qv : Value} {its : List Itm} (k : Que w B t qv its) : Src w 2 qv its.length (itCells its) := by
  refine Src.row k.row ?_
  intro u hu
  simp only [itCells, List.mem_flatMap] at hu
  obtain ⟨x, hx, hu⟩ := hu
  simp only [List.mem_cons, List.not_mem_nil, or_false] at hu
  rcases hu with rfl | rfl
  · rfl
  · rcases (k.cbs x hx).row.2 with ⟨h, _⟩ | ⟨g, cap, cur, h, _⟩ <;> rw [h] <;> rfl
theorem Que.alloc {w : World} {b : Nat} {t : TypeId} {qv : Value} {its : List Itm} (k : Que w b t qv its) (o : Obj) : Que (w.alloc o) b t qv its := k.carry ((FrT.refl 0 [] w).alloc o) ⟨rfl, rfl⟩
theorem Clk.carry {B : Nat} {T : List TypeId} {w w' : World} (h : FrT B T w w') {b p : Nat} {iv now : Int} {qv : Value} {its : List Itm} (k : Clk w b p iv now qv its) (hc : T.contains 78 = false ∧ T.contains 84 = false ∧ T.contains 42 = false) : Clk w' b p iv now qv its :=
  ⟨k.base, h.blk k.blk (.inr hc.1), k.que.carry h hc.2, k.ivr, k.nowr⟩
theorem Clk.below {w w' : World} (h : Below w.heap.size w w') {b p : Nat} {iv now : Int} {qv : Value} {its : List Itm} (k : Clk w b p iv now qv its) : Clk w' b p iv now qv its := k.carry (FrT.ofBelow h 0 []) ⟨rfl, rfl, rfl⟩

/-- A time within the range of times. -/
def clampT (t : Int) : Int := if t < 0 then 0 else if 4611686018427387904 < t then 4611686018427387904 else t
theorem clampT_rng (t : Int) : 0 ≤ clampT t ∧ clampT t ≤ 4611686018427387904 := by unfold clampT; split <;> (try split) <;> omega
/-- The first blank behind a time. -/
def nxt (iv t : Int) : Int := (clampT t / iv + 1) * iv
theorem nxt_rng {iv : Int} (t : Int) (h : 1 ≤ iv ∧ iv ≤ 1000000000) : clampT t < nxt iv t ∧ nxt iv t ≤ clampT t + iv ∧ nxt iv t % iv = 0 := by
  unfold nxt
  have h1 := Int.emod_add_mul_ediv (clampT t) iv
  have h2 := Int.emod_nonneg (clampT t) (show iv ≠ 0 by omega)
  have h3 := Int.emod_lt_of_pos (clampT t) (show 0 < iv by omega)
  rw [Int.add_mul, Int.one_mul, Int.mul_comm (clampT t / iv) iv]
  refine ⟨by omega, by omega, ?_⟩
  rw [Int.add_emod_right, Int.mul_emod_right]

theorem pclamp_any (t : Int) (w : World) (h : -9223372036854775808 ≤ t ∧ t < 9223372036854775808) : Calls Try.prog 45 #[.int .i64 t] w fun e w' => e = .returned (.int .i64 (clampT t)) ∧ w = w' := by
  unfold clampT
  by_cases h1 : t < 0
  · rw [if_pos h1]
    go_enter Try.func45, Try.ntmps45
    go_wp2
    go_ret
    exact ⟨by first | rfl | (simp; omega), rfl⟩
  · rw [if_neg h1]
    by_cases h2 : 4611686018427387904 < t
    · rw [if_pos h2]
      go_enter Try.func45, Try.ntmps45
      go_wp2
      go_ret
      exact ⟨by first | rfl | (simp; omega), rfl⟩
    · rw [if_neg h2]
      go_enter Try.func45, Try.ntmps45
      go_wp2
      go_ret
      exact ⟨by first | rfl | (simp; omega), rfl⟩
theorem rlimit_any (t : Int) (w : World) (h : -9223372036854775808 ≤ t ∧ t < 9223372036854775808) : Calls Try.prog 48 #[.int .i64 t] w fun e w' => e = .returned (.int .i64 (clampT t)) ∧ w = w' := by
  unfold clampT
  by_cases h1 : t < 0
  · rw [if_pos h1]
    go_enter Try.func48, Try.ntmps48
    go_wp2
    go_ret
    exact ⟨by first | rfl | (simp; omega), rfl⟩
  · rw [if_neg h1]
    by_cases h2 : 4611686018427387904 < t
    · rw [if_pos h2]
      go_enter Try.func48, Try.ntmps48
      go_wp2
      go_ret
      exact ⟨by first | rfl | (simp; omega), rfl⟩
    · rw [if_neg h2]
      go_enter Try.func48, Try.ntmps48
      go_wp2
      all_goals
        go_ret
        exact ⟨by first | rfl | (simp; omega), rfl⟩
theorem pusable_nil (w : World) : Calls Try.prog 44 #[.pointer none] w fun e w' => e = .returned (.bool false) ∧ w = w' := by
  go_enter Try.func44, Try.ntmps44
  go_wp2
  go_ret
  exact ⟨rfl, rfl⟩
theorem pusable_yes (p : Nat) (iv : Int) (w : World) (hc : w.cell? ⟨p, 0, none⟩ = some (.int .i64 iv)) (h : 1 ≤ iv) : Calls Try.prog 44 #[.pointer (some ⟨p, 0, none⟩)] w fun e w' => e = .returned (.bool true) ∧ w = w' := by
  go_enter Try.func44, Try.ntmps44
  go_wp2
  go_ret
  exact ⟨by first | rfl | (simp; omega), rfl⟩
theorem pnext_nil (t : Int) (w : World) : Calls Try.prog 18 #[.pointer none, .int .i64 t] w fun e w' => e = .returned (.int .i64 0) ∧ w = w' := by
  go_enter Try.func18, Try.ntmps18
  go_wp2_with (go_at_call 44; refine (pusable_nil _).mono ?_; rintro e w' ⟨rfl, rfl⟩)
  go_ret
  exact ⟨rfl, rfl⟩
theorem pnext_ok (p : Nat) (iv t : Int) (w : World) (hc : w.cell? ⟨p, 0, none⟩ = some (.int .i64 iv)) (h : 1 ≤ iv ∧ iv ≤ 1000000000) (ht : -9223372036854775808 ≤ t ∧ t < 9223372036854775808) :
    Calls Try.prog 18 #[.pointer (some ⟨p, 0, none⟩), .int .i64 t] w fun e w' => e = .returned (.int .i64 (nxt iv t)) ∧ Below w.heap.size w w' := by
  have hn := nxt_rng t h
  have hr := clampT_rng t
  have hC := fun W => pclamp_any t W ht
  unfold nxt at hn ⊢
  have hq : 0 ≤ clampT t / iv := Int.ediv_nonneg hr.1 (by omega)
  have hq2 : clampT t / iv ≤ clampT t := Int.ediv_le_self _ hr.1
  generalize clampT t = c at *
  have e0 : wrap64 (c / iv + 1) = c / iv + 1 := by unfold wrap64; omega
  have e1 : wrap64 ((c / iv + 1) * iv) = (c / iv + 1) * iv := by unfold wrap64; omega
  clear hn hq hq2
  have HC := Lib.hid hC
  clear hC
  have E0 := Lib.hid e0
  have E1 := Lib.hid e1
  clear e0 e1
  go_enter Try.func18, Try.ntmps18
  go_wp2_with (first | (go_at_call 44; refine (pusable_yes _ _ _ hc h.1).mono ?_; rintro e w' ⟨rfl, rfl⟩))
  go_quiet ((go_at_call 45; exact quiet_mine (HC.out _)))
  rw [E0.out, E1.out]
  go_wp2
  go_ret
  exact ⟨rfl, bdrewN (Below.refl _ _) _⟩
theorem ppending_nil (w : World) : Calls Try.prog 22 #[.pointer none] w fun e w' => e = .returned (.int .i64 0) ∧ w = w' := by
  go_enter Try.func22, Try.ntmps22
  go_wp2_with (go_at_call 44; refine (pusable_nil _).mono ?_; rintro e w' ⟨rfl, rfl⟩)
  go_ret
  exact ⟨rfl, rfl⟩
theorem psequence_nil (w : World) : Calls Try.prog 24 #[.pointer none] w fun e w' => e = .returned (.int .i64 0) ∧ w = w' := by
  go_enter Try.func24, Try.ntmps24
  go_wp2_with (go_at_call 44; refine (pusable_nil _).mono ?_; rintro e w' ⟨rfl, rfl⟩)
  go_ret
  exact ⟨rfl, rfl⟩
theorem psequence_ok (p : Nat) (iv now : Int) (w : World) (hc : w.cell? ⟨p, 0, none⟩ = some (.int .i64 iv)) (hc1 : w.cell? ⟨p, 1, none⟩ = some (.int .i64 now)) (h : 1 ≤ iv ∧ iv ≤ 1000000000) (hn : 0 ≤ now ∧ now ≤ 4611686018427387904) :
    Calls Try.prog 24 #[.pointer (some ⟨p, 0, none⟩)] w fun e w' => e = .returned (.int .i64 (now / iv)) ∧ Below w.heap.size w w' := by
  go_enter Try.func24, Try.ntmps24
  go_wp2_with (first | (go_at_call 44; refine (pusable_yes _ _ _ hc h.1).mono ?_; rintro e w' ⟨rfl, rfl⟩))
  go_quiet (fail)
  go_wp2
  go_ret
  exact ⟨rfl, bdrewN (Below.refl _ _) _⟩
theorem slice_len {w : World} {B : Nat} {e : TypeId} {size n : Nat} {v : Value} {xs : List Value} (h : w.ownsRow B e size v n xs) : ∃ ad c, v = .slice ad n c ∧ n ≤ c ∧ n ≤ 9223372036854775807 := by
  rcases h.2 with ⟨rfl, rfl⟩ | ⟨g, cap, cur, rfl, _, _, h1, h2, _⟩
  · exact ⟨_, _, rfl, Nat.le_refl _, by omega⟩
  · exact ⟨_, _, rfl, h1, by simp only [maxLen] at h2; omega⟩
theorem ppending_ok (B p : Nat) (iv now : Int) (qv : Value) (its : List Itm) (w : World) (k : Clk w B p iv now qv its) :
    Calls Try.prog 22 #[.pointer (some ⟨p, 0, none⟩)] w fun e w' => e = .returned (.int .i64 its.length) ∧ w = w' := by
  obtain ⟨c0, c1, c2, f2⟩ := k.blk.c3
  obtain ⟨ad, c, rfl, hc, _⟩ := slice_len k.que.row
  have h := k.ivr
  have hl := k.que.len
  clear k c1 f2
  obtain ⟨c0, f0⟩ := c0
  go_enter Try.func22, Try.ntmps22
  go_wp2_with (first | (go_at_call 44; refine (pusable_yes _ _ _ c0 h.1).mono ?_; rintro e w' ⟨rfl, rfl⟩))
  go_ret
  exact ⟨by first | rfl | (simp; omega), rfl⟩

abbrev rclk (md : Bool) (iv last : Int) (qv : Value) : Value := .agg #[.bool md, .int .i64 iv, .int .i64 last, qv]
theorem rnext_no (iv last t : Int) (qv : Value) (w : World) (h1 : qv.oneCell' = true) : Calls Try.prog 35 #[rclk false iv last qv, .int .i64 t] w fun e w' => e = .returned (.int .i64 0) ∧ Below w.heap.size w w' := by
  go_enter Try.func35, Try.ntmps35
  go_wp2
  go_ret
  exact ⟨rfl, by (with_reducible repeat (first | assumption | exact Below.refl _ _ | refine Below.setCell ?_ (by first | omega | (simp; done) | (simp; omega)) _ | refine Below.drew ?_ | refine bdrewN ?_ _ | refine Below.alloc ?_ (by first | omega | (simp; done) | (simp; omega)) _))⟩
theorem rnext_ok (iv last t : Int) (ad : Option Addr) (n c : Nat) (w : World) (h : 1 ≤ iv ∧ iv ≤ 1000000000) (ht : -9223372036854775808 ≤ t ∧ t < 9223372036854775808) :
    Calls Try.prog 35 #[rclk true iv last (.slice ad n c), .int .i64 t] w fun e w' => e = .returned (.int .i64 (nxt iv t)) ∧ Below w.heap.size w w' := by
  have hn := nxt_rng t h
  have hr := clampT_rng t
  have hC := fun W => rlimit_any t W ht
  unfold nxt at hn ⊢
  have hq : 0 ≤ clampT t / iv := Int.ediv_nonneg hr.1 (by omega)
  have hq2 : clampT t / iv ≤ clampT t := Int.ediv_le_self _ hr.1
  generalize clampT t = c at *
  have e0 : wrap64 (c / iv + 1) = c / iv + 1 := by unfold wrap64; omega
  have e1 : wrap64 ((c / iv + 1) * iv) = (c / iv + 1) * iv := by unfold wrap64; omega
  clear hn hq hq2
  have HC := Lib.hid hC
  clear hC
  have E0 := Lib.hid e0
  have E1 := Lib.hid e1
  clear e0 e1
  go_enter Try.func35, Try.ntmps35
  go_wp2
  go_quiet ((go_at_call 48; exact quiet_mine (HC.out _)))
  rw [E0.out, E1.out]
  go_wp2
  go_ret
  exact ⟨rfl, bdrewN (by (with_reducible repeat (first | assumption | exact Below.refl _ _ | refine Below.setCell ?_ (by first | omega | (simp; done) | (simp; omega)) _ | refine Below.drew ?_ | refine bdrewN ?_ _ | refine Below.alloc ?_ (by first | omega | (simp; done) | (simp; omega)) _))) _⟩
theorem rsequence_ok (iv last : Int) (ad : Option Addr) (n c : Nat) (w : World) (h : 1 ≤ iv ∧ iv ≤ 1000000000) (hn : 0 ≤ last ∧ last ≤ 4611686018427387904) :
    Calls Try.prog 34 #[rclk true iv last (.slice ad n c)] w fun e w' => e = .returned (.int .i64 (last / iv)) ∧ Below w.heap.size w w' := by
  go_enter Try.func34, Try.ntmps34
  go_wp2
  go_ret
  exact ⟨rfl, by (with_reducible repeat (first | assumption | exact Below.refl _ _ | refine Below.setCell ?_ (by first | omega | (simp; done) | (simp; omega)) _ | refine Below.drew ?_ | refine bdrewN ?_ _ | refine Below.alloc ?_ (by first | omega | (simp; done) | (simp; omega)) _))⟩
theorem rsequence_no (iv last : Int) (ad : Option Addr) (n c : Nat) (w : World) :
    Calls Try.prog 34 #[rclk false iv last (.slice ad n c)] w fun e w' => e = .returned (.int .i64 0) ∧ Below w.heap.size w w' := by
  go_enter Try.func34, Try.ntmps34
  go_wp2
  go_ret
  exact ⟨rfl, by (with_reducible repeat (first | assumption | exact Below.refl _ _ | refine Below.setCell ?_ (by first | omega | (simp; done) | (simp; omega)) _ | refine Below.drew ?_ | refine bdrewN ?_ _ | refine Below.alloc ?_ (by first | omega | (simp; done) | (simp; omega)) _))⟩
theorem rpending_ok (md : Bool) (iv last : Int) (ad : Option Addr) (n c : Nat) (w : World) (hn : n ≤ 256) :
    Calls Try.prog 33 #[rclk md iv last (.slice ad n c)] w fun e w' => e = .returned (.int .i64 n) ∧ Below w.heap.size w w' := by
  go_enter Try.func33, Try.ntmps33
  go_wp2
  go_ret
  exact ⟨by first | rfl | (simp; omega), by (with_reducible repeat (first | assumption | exact Below.refl _ _ | refine Below.setCell ?_ (by first | omega | (simp; done) | (simp; omega)) _ | refine Below.drew ?_ | refine bdrewN ?_ _ | refine Below.alloc ?_ (by first | omega | (simp; done) | (simp; omega)) _))⟩
end Go.Proofs.Ytijfldgkmbhdoaa
