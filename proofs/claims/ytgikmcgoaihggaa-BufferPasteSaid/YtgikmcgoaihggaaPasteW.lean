/- BufferPaste: the walk. -/
import Derived.Test.YtgikmcgoaihggaaBEx
import Derived.Test.YtgikmcgoaihggaaBEq
import Derived.Test.YtgikmcgoaihggaaCombB
import Derived.Test.YtgikmcgoaihggaaVPutB
import Derived.Test.YtgikmcgoaihggaaLbClone
import Derived.Test.YtgikmcgoaihggaaOpenB
import Derived.Deep.QuietTactic
import Derived.BigQuiet
set_option linter.unusedVariables false
set_option linter.unusedSimpArgs false
namespace Go.Proofs.Ytgikmcgoaihggaa
open Go.RowKit Go.Sort
attribute [local go_sem ↓] Go.wp_at_zero Go.wp_at_succ

theorem bufE_atP {w : World} {B1 B2 : Int} {ps : List Px} {E : Int} {e : Ending} {w' : World} (h : BufE w (B1, B2, ps) E e w') : ∃ A c, e = .returned (.tuple #[bufv B1 B2 (.slice A ps.length c), .int .i64 E]) ∧ Below w.heap.size w w' ∧ OwnP w' w.heap.size (.slice A ps.length c) ps ∧ ps.length ≤ c ∧ c ≤ 9223372036854775807 ∧ Rdp w' A ps := by
  obtain ⟨v, he, hb, ho⟩ := h
  obtain ⟨A, c, hv, h1, h2, hr⟩ := ho.form
  rw [hv] at he ho
  exact ⟨A, c, he, hb, ho, h1, h2, hr⟩
theorem Blk.drewNP {w : World} {i n : Nat} {e : TypeId} {cs : Array Value} (h : Blk w i e cs) : Blk (w.drewN n) i e cs := h
theorem ownsBelow {w w' : World} {B : Nat} {e : TypeId} {k n : Nat} {v : Value} {xs : List Value} (hb : Below w.heap.size w w') (h : w.ownsRow B e k v n xs) : w'.ownsRow B e k v n xs := (FrT.ofBelow hb 0 []).row h (.inl rfl)
/-- The two clones. -/
structure Two (w : World) (dw dh sw sh : Int) (d s : List Px) (n ns : Nat) (g9 g10 : Nat) (A9 A10 : Option Addr) (k9 k10 : Nat) (wx : World) : Prop where
  below : Below w.heap.size w wx
  b9 : Blk wx g9 27 #[.int .i64 dw, .int .i64 dh, .slice A9 n k9]
  b10 : Blk wx g10 27 #[.int .i64 sw, .int .i64 sh, .slice A10 ns k10]
  o9 : wx.ownsRow w.heap.size 43 4 (.slice A9 n k9) n (pxCells d)
  o10 : wx.ownsRow w.heap.size 43 4 (.slice A10 ns k10) ns (pxCells s)
  l9 : w.heap.size ≤ g9
  l10 : w.heap.size ≤ g10
  ne : g9 ≠ g10
theorem two_mk {w wE : World} {dw dh sw sh : Int} {d s : List Px} {n ns g9 g10 k9 k10 : Nat} {A9 A10 : Option Addr} (hb : Below w.heap.size w wE) (K9 : Blk wE g9 27 #[.int .i64 0, .int .i64 0, .slice none 0 0]) (K10 : Blk wE g10 27 #[.int .i64 0, .int .i64 0, .slice none 0 0])
    (o9 : wE.ownsRow w.heap.size 43 4 (.slice A9 n k9) n (pxCells d)) (o10 : wE.ownsRow w.heap.size 43 4 (.slice A10 ns k10) ns (pxCells s)) (l9 : w.heap.size ≤ g9) (l10 : w.heap.size ≤ g10) (ne : g9 ≠ g10) :
    Two w dw dh sw sh d s n ns g9 g10 A9 A10 k9 k10 ((((((wE.setCell ⟨g9, 0, none⟩ (.int .i64 dw)).setCell ⟨g9, 1, none⟩ (.int .i64 dh)).setCell ⟨g9, 2, none⟩ (.slice A9 n k9)).setCell ⟨g10, 0, none⟩ (.int .i64 sw)).setCell ⟨g10, 1, none⟩ (.int .i64 sh)).setCell ⟨g10, 2, none⟩ (.slice A10 ns k10)) := by
  obtain ⟨E9, F9⟩ := K9.set3 (.int .i64 dw) (.int .i64 dh) (.slice A9 n k9)
  have K10' := ((K10.other (p := ⟨g9, 0, none⟩) (Ne.symm ne) (.int .i64 dw)).other (p := ⟨g9, 1, none⟩) (Ne.symm ne) (.int .i64 dh)).other (p := ⟨g9, 2, none⟩) (Ne.symm ne) (.slice A9 n k9)
  obtain ⟨E10, F10⟩ := K10'.set3 (.int .i64 sw) (.int .i64 sh) (.slice A10 ns k10)
  have F := F9.trans F10
  refine ⟨(((((hb.setCell l9 _).setCell l9 _).setCell l9 _).setCell l10 _).setCell l10 _).setCell l10 _, ((E9.other (p := ⟨g10, 0, none⟩) ne _).other (p := ⟨g10, 1, none⟩) ne _).other (p := ⟨g10, 2, none⟩) ne _, E10, F.row o9 (.inl rfl), F.row o10 (.inl rfl), l9, l10, ne⟩
theorem Blk.of3 {w : World} {i : Nat} {e : TypeId} {a b c : Value} (h : Blk w i e #[a, b, c]) (x y z : Value) : Blk (((w.setCell ⟨i, 0, none⟩ x).setCell ⟨i, 1, none⟩ y).setCell ⟨i, 2, none⟩ z) i e #[x, y, z] := (h.set3 x y z).1
theorem own_of3 {w : World} {i B k n : Nat} {a b c v : Value} {xs : List Value} (h : Blk w i 27 #[a, b, c]) (ho : w.ownsRow B 43 k v n xs) (x y z : Value) : (((w.setCell ⟨i, 0, none⟩ x).setCell ⟨i, 1, none⟩ y).setCell ⟨i, 2, none⟩ z).ownsRow B 43 k v n xs := (h.set3 x y z).2.row ho (.inl rfl)
theorem rd_of {w : World} {B n c : Nat} {A : Option Addr} {ps : List Px} (h : w.ownsRow B 43 4 (.slice A n c) n (pxCells ps)) (hn : ps.length = n) : Rdp w A ps := by
  subst hn
  obtain ⟨A', c', hv, h1, h2, hr⟩ := OwnP.form h
  simp only [Value.slice.injEq] at hv
  obtain ⟨rfl, _, rfl⟩ := hv
  exact hr
set_option maxRecDepth 100000 in
set_option maxHeartbeats 30000000 in
theorem bufferpaste_any (dw dh : Int) (Ad : Option Addr) (d : List Px) (c1 : Nat) (sw sh : Int) (As : Option Addr) (s : List Px) (c2 : Nat) (x y : Int) (w : World) (hl1 : d.length ≤ c1 ∧ c1 ≤ 9223372036854775807) (hl2 : s.length ≤ c2 ∧ c2 ≤ 9223372036854775807) (rd : Rdp w Ad d) (rs : Rdp w As s) (okd : PxsOk d) (oks : PxsOk s)
    (hn1 : d.length = 0 → Ad = none → c1 = 0) (hn2 : s.length = 0 → As = none → c2 = 0) :
    Calls Try.prog 10 #[bufv dw dh (.slice Ad d.length c1), bufv sw sh (.slice As s.length c2), .agg #[.int .i64 x, .int .i64 y]] w fun e w' => e = .returned (.bool true) ∧ Below w.heap.size w w' := by
  have hS1 := fun W => lbsmall_any dw dh Ad d.length c1 W (by omega)
  have hS2 := fun W => lbsmall_any sw sh As s.length c2 W (by omega)
  have hC1 := fun W (h : Below w.heap.size w W) (k : d.length ≤ 400000) => lbclone_any dw dh Ad d c1 W (rd.below h) k hn1
  have hC2 := fun W (h : Below w.heap.size w W) (k : s.length ≤ 400000) => lbclone_any sw sh As s c2 W (rs.below h) k hn2
  obtain ⟨n, hn⟩ : ∃ n, d.length = n := ⟨_, rfl⟩
  obtain ⟨ns, hns⟩ : ∃ n, s.length = n := ⟨_, rfl⟩
  rw [hn] at hS1 hC1 hl1 ⊢
  rw [hns] at hS2 hC2 hl2 ⊢
  have HN := Lib.hid hn
  have HNS := Lib.hid hns
  have HRD := Lib.hid rd
  have HRS := Lib.hid rs
  clear hn hns rd rs hn1 hn2
  obtain ⟨hl3, hl4⟩ := hl1
  obtain ⟨hl5, hl6⟩ := hl2
  by_cases s1 : n ≤ 400
  · rw [decide_eq_true s1] at hS1
    have HS1 := Lib.hid hS1
    clear hS1
    by_cases s2 : ns ≤ 400
    · rw [decide_eq_true s2] at hS2
      have HS2 := Lib.hid hS2
      have HC1 := Lib.hid (fun W h => hC1 W h (by omega))
      have HC2 := Lib.hid (fun W h => hC2 W h (by omega))
      clear hS2 hC1 hC2
      go_enter Try.func10, Try.ntmps10; go_wp2_with fail; refine (HS1.out _).mono ?_; rintro e wa ⟨rfl, hb_w1⟩; have hB_wa : Below w.heap.size w wa := bon (by (with_reducible repeat (first | assumption | exact Below.refl _ _ | refine Below.setCell ?_ (by first | omega | (simp; done) | (simp; omega)) _ | refine Below.drew ?_ | refine bdrewN ?_ _ | refine Below.alloc ?_ (by first | omega | (simp; done) | (simp; omega)) _))) (by simp; try omega) hb_w1; have K3 : Blk wa w.heap.size 27 #[.int .i64 dw, .int .i64 dh, .slice Ad n c1] := Blk.below hb_w1 (by (with_reducible repeat (first | assumption | (refine Blk.newAt ?_; first | rfl | (simp; done)) | refine Blk.alloc ?_ _ | refine Blk.drew ?_ | refine Blk.other ?_ (by simp) _))); have K4 : Blk wa (w.heap.size + 1) 27 #[.int .i64 sw, .int .i64 sh, .slice As ns c2] := Blk.below hb_w1 (by (with_reducible repeat (first | assumption | (refine Blk.newAt ?_; first | rfl | (simp; done)) | refine Blk.alloc ?_ _ | refine Blk.drew ?_ | refine Blk.other ?_ (by simp) _))); have K5 : Blk wa (w.heap.size + 1 + 1) 41 #[.int .i64 x, .int .i64 y] := Blk.below hb_w1 (by (with_reducible repeat (first | assumption | (refine Blk.newAt ?_; first | rfl | (simp; done)) | refine Blk.alloc ?_ _ | refine Blk.drew ?_ | refine Blk.other ?_ (by simp) _))); clear hb_w1
      obtain ⟨⟨q0, _⟩, ⟨q1, _⟩, q2, _⟩ := K4.c3
      have HK3 := Lib.hid K3
      have HK4 := Lib.hid K4
      have HK5 := Lib.hid K5
      clear K3 K4 K5
      go_wp2_with fail
      refine (HS2.out _).mono ?_; rintro e wb ⟨rfl, hb2⟩
      have hB_wb : Below w.heap.size w wb := bon hB_wa hB_wa.size hb2
      have K3 := Blk.below hb2 HK3.out
      have K4 := Blk.below hb2 HK4.out
      have K5 := Blk.below hb2 HK5.out
      obtain ⟨⟨t0, _⟩, t1, _⟩ := K5.c2
      have HK3 := Lib.hid K3
      have HK4 := Lib.hid K4
      clear K3 K4 K5 hb2 q0 q1 q2 hB_wa HK5 HS1 HS2
      go_wp2_with fail
      go_quiet (fail)
      have hbq : Below wb.heap.size wb (wb.drewN nq) := bdrewN (Below.refl _ _) nq
      generalize wb.drewN nq = w3 at *
      have K3 := Blk.below hbq HK3.out
      have K4 := Blk.below hbq HK4.out
      have hB3 : Below w.heap.size w w3 := bon hB_wb hB_wb.size hbq
      clear hbq t0 t1 hB_wb HK3 HK4
      go_wp2_with fail
      go_cut [9, 10] (fun s9 s10 wx => ∃ g9 g10 A9 A10 k9 k10, s9 = .pointer (some ⟨g9, 0, none⟩) ∧ s10 = .pointer (some ⟨g10, 0, none⟩) ∧ Two w3 dw dh sw sh d s n ns g9 g10 A9 A10 k9 k10 wx)
      case first =>
        obtain ⟨⟨p0, _⟩, ⟨p1, _⟩, p2, _⟩ := K3.c3
        obtain ⟨⟨q0, _⟩, ⟨q1, _⟩, q2, _⟩ := K4.c3
        have hz3 := K3.lt
        have hz4 := K4.lt
        have x1 : w.heap.size ≠ w3.heap.size := by omega
        have x2 : w3.heap.size ≠ w.heap.size := by omega
        have x3 : w.heap.size + 1 ≠ w3.heap.size := by omega
        have x4 : w3.heap.size ≠ w.heap.size + 1 := by omega
        have x5 : w.heap.size ≠ w3.heap.size + 1 := by omega
        have x6 : w3.heap.size + 1 ≠ w.heap.size := by omega
        have HK3 := Lib.hid K3
        have HK4 := Lib.hid K4
        clear K3 K4
        go_region_held3 (fun w' => w'.cell? ⟨w.heap.size, 0, none⟩ = some (.int .i64 dw) ∧ w'.cell? ⟨w.heap.size, 1, none⟩ = some (.int .i64 dh) ∧ w'.cell? ⟨w.heap.size, 2, none⟩ = some (.slice Ad n c1) ∧ w'.cell? ⟨w.heap.size + 1, 0, none⟩ = some (.int .i64 sw) ∧ w'.cell? ⟨w.heap.size + 1, 1, none⟩ = some (.int .i64 sh) ∧ w'.cell? ⟨w.heap.size + 1, 2, none⟩ = some (.slice As ns c2)) (go_keep)
          ((first
            | ((with_reducible refine Calls.mono (HC1.out _ (by have := hB3; (with_reducible repeat (first | assumption | exact Below.refl _ _ | refine Below.setCell ?_ (by first | omega | (simp; done) | (simp; omega)) _ | refine Below.drew ?_ | refine bdrewN ?_ _ | refine Below.alloc ?_ (by first | omega | (simp; done) | (simp; omega)) _)))) ?_); rintro e w7 ⟨v7, rfl, hb7, ho7⟩; have hB37 : Below w3.heap.size w3 w7 := bon (by (with_reducible repeat (first | assumption | exact Below.refl _ _ | refine Below.setCell ?_ (by first | omega | (simp; done) | (simp; omega)) _ | refine Below.drew ?_ | refine bdrewN ?_ _ | refine Below.alloc ?_ (by first | omega | (simp; done) | (simp; omega)) _))) (by first | exact Nat.le_refl _ | (simp; done) | (simp; omega) | omega) hb7; unfold OwnP at ho7; rw [HN.out] at ho7; obtain ⟨A7, k7, hv7, _, _⟩ := slice_lenB ho7; subst hv7; have HO7 := Lib.hid (ownsRow_mono ho7 (show w3.heap.size ≤ _ by first | exact Nat.le_refl _ | (simp; done) | (simp; omega) | omega)); have z37 : w3.heap.size ≤ w7.heap.size := hB37.size; have K3' := Blk.below hB37 HK3.out; have K4' := Blk.below hB37 HK4.out; obtain ⟨⟨p0, _⟩, ⟨p1, _⟩, p2, _⟩ := K3'.c3; obtain ⟨⟨q0, _⟩, ⟨q1, _⟩, q2, _⟩ := K4'.c3; have z37' := hb7.size; (try simp at z37'); (first | (have KtA := Blk.below hb7 (i := w3.heap.size) (e := 27) (cs := #[.int .i64 0, .int .i64 0, .slice none 0 0]) (Blk.drew (Blk.newAt rfl)); obtain ⟨⟨t0, u0⟩, ⟨t1, u1⟩, t2, u2⟩ := KtA.c3; skip) | (have KtA := Blk.below hb7 (i := w3.heap.size) (e := 27) (cs := #[.int .i64 0, .int .i64 0, .slice none 0 0]) (Blk.drew (Blk.alloc (Blk.newAt rfl) _)); obtain ⟨⟨t0, u0⟩, ⟨t1, u1⟩, t2, u2⟩ := KtA.c3; skip) | skip); (first | (have KtB := Blk.below hb7 (i := w3.heap.size + 1) (e := 27) (cs := #[.int .i64 0, .int .i64 0, .slice none 0 0]) (Blk.drew (Blk.newAt (World.size_alloc _ _))); obtain ⟨⟨t0, u0⟩, ⟨t1, u1⟩, t2, u2⟩ := KtB.c3; have := (show w3.heap.size + 1 ≠ w3.heap.size by omega); have := (show w3.heap.size ≠ w3.heap.size + 1 by omega)) | skip); have := (show w.heap.size < w7.heap.size by omega); have := (show w.heap.size + 1 < w7.heap.size by omega); have HB7 := Lib.hid hb7; clear ho7 hb7 K3' K4')
            | ((with_reducible refine Calls.mono (HC2.out _ (by have := bon hB3 hB3.size hB37; (with_reducible repeat (first | assumption | exact Below.refl _ _ | refine Below.setCell ?_ (by first | omega | (simp; done) | (simp; omega)) _ | refine Below.drew ?_ | refine bdrewN ?_ _ | refine Below.alloc ?_ (by first | omega | (simp; done) | (simp; omega)) _)))) ?_); rintro e w8 ⟨v8, rfl, hb8, ho8⟩; have hB78 : Below w7.heap.size w7 w8 := bon (by (with_reducible repeat (first | assumption | exact Below.refl _ _ | refine Below.setCell ?_ (by first | omega | (simp; done) | (simp; omega)) _ | refine Below.drew ?_ | refine bdrewN ?_ _ | refine Below.alloc ?_ (by first | omega | (simp; done) | (simp; omega)) _))) (by first | exact Nat.le_refl _ | (simp; done) | (simp; omega) | omega) hb8; have hB38 : Below w3.heap.size w3 w8 := bon hB37 hB37.size hB78; unfold OwnP at ho8; rw [HNS.out] at ho8; obtain ⟨A8, k8, hv8, _, _⟩ := slice_lenB ho8; subst hv8; have HO8 := Lib.hid (ownsRow_mono ho8 (show w3.heap.size ≤ _ by have := hB37.size; first | omega | (simp; omega))); have HO78 := Lib.hid (ownsBelow hB78 HO7.out); have z78 : w7.heap.size ≤ w8.heap.size := hB78.size; have K3' := Blk.below hB38 HK3.out; have K4' := Blk.below hB38 HK4.out; obtain ⟨⟨p0, _⟩, ⟨p1, _⟩, p2, _⟩ := K3'.c3; obtain ⟨⟨q0, _⟩, ⟨q1, _⟩, q2, _⟩ := K4'.c3; have z78' := hb8.size; (try simp at z78'); (first | (have KtA8 := Blk.below hb8 (i := w3.heap.size) (e := 27) (cs := #[.int .i64 0, .int .i64 0, .slice none 0 0]) (KtA); obtain ⟨⟨t0, u0⟩, ⟨t1, u1⟩, t2, u2⟩ := KtA8.c3; have := KtA8.lt; have hne3 := (show w3.heap.size ≠ w8.heap.size by omega); have := (show w8.heap.size ≠ w3.heap.size by omega)) | (have KtA8 := Blk.below hb8 (i := w3.heap.size) (e := 27) (cs := #[.int .i64 0, .int .i64 0, .slice none 0 0]) (Blk.alloc KtA _); obtain ⟨⟨t0, u0⟩, ⟨t1, u1⟩, t2, u2⟩ := KtA8.c3; have := KtA8.lt; have hne3 := (show w3.heap.size ≠ w8.heap.size by omega); have := (show w8.heap.size ≠ w3.heap.size by omega)) | skip); (first | (have KtB8 := Blk.below hb8 (i := w3.heap.size + 1) (e := 27) (cs := #[.int .i64 0, .int .i64 0, .slice none 0 0]) (KtB); obtain ⟨⟨t0, u0⟩, ⟨t1, u1⟩, t2, u2⟩ := KtB8.c3; have := KtB8.lt) | (have KtB8 := Blk.below hb8 (i := w3.heap.size + 1) (e := 27) (cs := #[.int .i64 0, .int .i64 0, .slice none 0 0]) (Blk.alloc KtB _); obtain ⟨⟨t0, u0⟩, ⟨t1, u1⟩, t2, u2⟩ := KtB8.c3; have := KtB8.lt) | skip); (first | (have KtC8 := Blk.below hb8 (i := w7.heap.size) (e := 27) (cs := #[.int .i64 0, .int .i64 0, .slice none 0 0]) (Blk.newAt rfl); obtain ⟨⟨t0, u0⟩, ⟨t1, u1⟩, t2, u2⟩ := KtC8.c3; have := KtC8.lt; have := (show w7.heap.size ≠ w.heap.size by omega); have := (show w.heap.size ≠ w7.heap.size by omega); have := (show w7.heap.size ≠ w.heap.size + 1 by omega); have := (show w.heap.size + 1 ≠ w7.heap.size by omega); (first | (have := (show w7.heap.size ≠ w3.heap.size by omega); have := (show w3.heap.size ≠ w7.heap.size by omega)) | skip); have := (show w7.heap.size ≠ w8.heap.size by omega); have := (show w8.heap.size ≠ w7.heap.size by omega)) | (have KtC8 := Blk.below hb8 (i := w7.heap.size) (e := 27) (cs := #[.int .i64 0, .int .i64 0, .slice none 0 0]) (Blk.alloc (Blk.newAt rfl) _); obtain ⟨⟨t0, u0⟩, ⟨t1, u1⟩, t2, u2⟩ := KtC8.c3; have := KtC8.lt; have := (show w7.heap.size ≠ w.heap.size by omega); have := (show w.heap.size ≠ w7.heap.size by omega); have := (show w7.heap.size ≠ w.heap.size + 1 by omega); have := (show w.heap.size + 1 ≠ w7.heap.size by omega); (first | (have := (show w7.heap.size ≠ w3.heap.size by omega); have := (show w3.heap.size ≠ w7.heap.size by omega)) | skip); have := (show w7.heap.size ≠ w8.heap.size by omega); have := (show w8.heap.size ≠ w7.heap.size by omega)) | skip); (first | (have KtD8 := Blk.below hb8 (i := w7.heap.size + 1) (e := 27) (cs := #[.int .i64 0, .int .i64 0, .slice none 0 0]) (Blk.newAt (World.size_alloc _ _)); obtain ⟨⟨t0, u0⟩, ⟨t1, u1⟩, t2, u2⟩ := KtD8.c3; have := KtD8.lt; have := (show w7.heap.size + 1 ≠ w.heap.size by omega); have := (show w.heap.size ≠ w7.heap.size + 1 by omega); have := (show w7.heap.size + 1 ≠ w.heap.size + 1 by omega); have := (show w.heap.size + 1 ≠ w7.heap.size + 1 by omega)) | skip); have := (show w.heap.size < w8.heap.size by omega); have := (show w8.heap.size ≠ w.heap.size by omega); have := (show w.heap.size ≠ w8.heap.size by omega); have := (show w.heap.size + 1 < w8.heap.size by omega); have := (show w8.heap.size ≠ w.heap.size + 1 by omega); have := (show w.heap.size + 1 ≠ w8.heap.size by omega); have HB8 := Lib.hid hb8; clear ho8 hb8 K3' K4')))
        all_goals
          go_wp2_with fail
          go_meet
          have o9 := HO78.out
          have o10 := HO8.out
          refine ⟨_, _, A7, A8, k7, k8, rfl, rfl, ?_, ?_, ?_, ?_, ?_, ?_, ?_, ?_⟩
          · (with_reducible repeat (first | assumption | exact Below.refl _ _ | refine Below.setCell ?_ (by first | omega | (simp; done) | (simp; omega)) _ | refine Below.drew ?_ | refine bdrewN ?_ _ | refine Below.alloc ?_ (by first | omega | (simp; done) | (simp; omega)) _))
          · (with_reducible repeat (first | assumption | (refine Blk.newAt ?_; first | rfl | (simp; done)) | refine Blk.alloc ?_ _ | refine Blk.drew ?_ | refine Blk.of3 (a := .int .i64 0) (b := .int .i64 0) (c := .slice none 0 0) ?_ _ _ _ | refine Blk.other ?_ (by first | assumption | (simp; done) | (simp; omega) | omega) _))
          · (with_reducible repeat (first | assumption | (refine Blk.newAt ?_; first | rfl | (simp; done)) | refine Blk.alloc ?_ _ | refine Blk.drew ?_ | refine Blk.of3 (a := .int .i64 0) (b := .int .i64 0) (c := .slice none 0 0) ?_ _ _ _ | refine Blk.other ?_ (by first | assumption | (simp; done) | (simp; omega) | omega) _))
          · (with_reducible repeat (first | assumption | refine World.ownsRow.alloc ?_ _ | refine own_of3 (a := .int .i64 0) (b := .int .i64 0) (c := .slice none 0 0) (by (with_reducible repeat (first | assumption | (refine Blk.newAt ?_; first | rfl | (simp; done)) | refine Blk.alloc ?_ _ | refine Blk.drew ?_ | refine Blk.of3 (a := .int .i64 0) (b := .int .i64 0) (c := .slice none 0 0) ?_ _ _ _ | refine Blk.other ?_ (by first | assumption | (simp; done) | (simp; omega) | omega) _))) ?_ _ _ _))
          · (with_reducible repeat (first | assumption | refine World.ownsRow.alloc ?_ _ | refine own_of3 (a := .int .i64 0) (b := .int .i64 0) (c := .slice none 0 0) (by (with_reducible repeat (first | assumption | (refine Blk.newAt ?_; first | rfl | (simp; done)) | refine Blk.alloc ?_ _ | refine Blk.drew ?_ | refine Blk.of3 (a := .int .i64 0) (b := .int .i64 0) (c := .slice none 0 0) ?_ _ _ _ | refine Blk.other ?_ (by first | assumption | (simp; done) | (simp; omega) | omega) _))) ?_ _ _ _))
          · first | omega | (simp; omega) | simp
          · first | omega | (simp; omega) | simp
          · first | omega | (simp; omega) | simp
      case rest =>
      obtain ⟨g9, g10, A9, A10, k9, k10, rfl, rfl, hT⟩ := hcut
      have hBT : Below w.heap.size w wc := bon hB3 hB3.size hT.below
      have K3' := Blk.below hT.below K3
      have K4' := Blk.below hT.below K4
      obtain ⟨⟨p0, _⟩, ⟨p1, _⟩, p2, _⟩ := K3'.c3
      obtain ⟨⟨q0, _⟩, ⟨q1, _⟩, q2, _⟩ := K4'.c3
      have HT := Lib.hid hT
      have HK3 := Lib.hid K3'
      have HK4 := Lib.hid K4'
      clear hT K3 K4 K3' K4' hB3 HC1 HC2
      have hP1 := fun W0 (h : Below w.heap.size w W0) => bpaste_any dw dh Ad d c1 sw sh As s c2 x y W0 (HRD.out.below h) (HRS.out.below h) (by rw [HN.out]; omega) (by rw [HNS.out]; omega) okd oks
      have hB1 := fun W0 (h : Below w.heap.size w W0) => bblend_any dw dh Ad d c1 sw sh As s c2 x y W0 (HRD.out.below h) (HRS.out.below h) (by rw [HN.out]; omega) (by rw [HNS.out]; omega) okd oks
      have hP2 := fun W0 (h1 : Rdp W0 A9 d) (h2 : Rdp W0 A10 s) => vpaste_any dw dh A9 d k9 sw sh A10 s k10 x y W0 h1 h2 (by rw [HN.out]; omega) (by rw [HNS.out]; omega) okd oks
      have hB2 := fun W0 (h1 : Rdp W0 A9 d) (h2 : Rdp W0 A10 s) => vblend_any dw dh A9 d k9 sw sh A10 s k10 x y W0 h1 h2 (by rw [HN.out]; omega) (by rw [HNS.out]; omega) okd oks
      obtain ⟨E, hE⟩ : ∃ E, putE dw dh d sw sh s = E := ⟨_, rfl⟩
      obtain ⟨BP, hBP⟩ : ∃ B, putB cpy dw dh d sw sh s x y = B := ⟨_, rfl⟩
      obtain ⟨BB, hBB⟩ : ∃ B, putB bld dw dh d sw sh s x y = B := ⟨_, rfl⟩
      rw [hE, hBP, HN.out, HNS.out] at hP1 hP2
      rw [hE, hBB, HN.out, HNS.out] at hB1 hB2
      obtain ⟨P1, P2, P3⟩ := BP
      obtain ⟨Q1, Q2, Q3⟩ := BB
      have HP1 := Lib.hid hP1
      have HP2 := Lib.hid hP2
      have HB1 := Lib.hid hB1
      have HB2 := Lib.hid hB2
      clear hP1 hP2 hB1 hB2 hE hBP hBB okd oks
      go_wp2_with fail
      refine (HP1.out _ hBT).mono ?_; intro e w5 h5; obtain ⟨A5, k5, rfl, hb5, ho5, hk5, hm5, hr5⟩ := bufE_atP h5
      have hBT5 : Below wc.heap.size wc w5 := hb5
      have hB5 : Below w.heap.size w w5 := bon hBT hBT.size hb5
      have K9 := Blk.below hb5 HT.out.b9
      have K10 := Blk.below hb5 HT.out.b10
      obtain ⟨⟨i0, _⟩, ⟨i1, _⟩, i2, _⟩ := K9.c3
      obtain ⟨⟨j0, _⟩, ⟨j1, _⟩, j2, _⟩ := K10.c3
      have K3 := Blk.below hb5 HK3.out
      have K4 := Blk.below hb5 HK4.out
      have hz9 := K9.lt
      have hz10 := K10.lt
      have hz3 := K3.lt
      have hz4 := K4.lt
      have O9 := ownsBelow hb5 HT.out.o9
      have O10 := ownsBelow hb5 HT.out.o10
      have HK9 := Lib.hid K9
      have HK10 := Lib.hid K10
      have HK3 := Lib.hid K3
      have HK4 := Lib.hid K4
      have HO9 := Lib.hid O9
      have HO10 := Lib.hid O10
      have HR5 := Lib.hid hr5
      have HB5 := Lib.hid hb5
      clear h5 hb5 ho5 hr5 K9 K10 K3 K4 O9 O10 p0 p1 p2 q0 q1 q2 hBT5
      go_wp2_with fail
      generalize hWd : World.alloc _ _ = v5
      have hW5 : Below w5.heap.size w5 v5 := by subst hWd; (with_reducible repeat (first | assumption | exact Below.refl _ _ | refine Below.setCell ?_ (by first | omega | (simp; done) | (simp; omega)) _ | refine Below.drew ?_ | refine bdrewN ?_ _ | refine Below.alloc ?_ (by first | omega | (simp; done) | (simp; omega)) _))
      have K11 : Blk v5 w5.heap.size 27 #[.int .i64 P1, .int .i64 P2, .slice A5 P3.length k5] := by subst hWd; (with_reducible repeat (first | assumption | (refine Blk.newAt ?_; first | rfl | (simp; done)) | refine Blk.alloc ?_ _ | refine Blk.drew ?_ | refine Blk.other ?_ (by simp) _))
      clear hWd
      have K3 := Blk.below hW5 HK3.out; have K4 := Blk.below hW5 HK4.out; have K9 := Blk.below hW5 HK9.out; have K10 := Blk.below hW5 HK10.out; have O9 := ownsBelow hW5 HO9.out; have O10 := ownsBelow hW5 HO10.out
      refine (HP2.out _ (rd_of O9 HN.out) (rd_of O10 HNS.out)).mono ?_; intro e w6 h6; obtain ⟨A6, k6, rfl, hb6, _, hk6, hm6, hr6⟩ := bufE_atP h6
      have HK3 := Lib.hid K3; have HK4 := Lib.hid K4; have HK9 := Lib.hid K9; have HK10 := Lib.hid K10; have HO9 := Lib.hid O9; have HO10 := Lib.hid O10; clear K3 K4 K9 K10 O9 O10
      have hB6 : Below w.heap.size w w6 := bon (bon hB5 hB5.size hW5) (by have := hB5.size; have := hW5.size; omega) hb6
      have hb56 : Below w5.heap.size w5 w6 := bon hW5 hW5.size hb6
      replace K11 := Blk.below hb6 K11
      have K3 := Blk.below hb6 HK3.out; have K4 := Blk.below hb6 HK4.out; have K9 := Blk.below hb6 HK9.out; have K10 := Blk.below hb6 HK10.out; have O9 := ownsBelow hb6 HO9.out; have O10 := ownsBelow hb6 HO10.out
      have hr5' := HR5.out.below hb56
      obtain ⟨⟨l0, m0⟩, ⟨l1, m1⟩, l2, m2⟩ := K11.c3
      have hl3 := K3.lt
      have hl9' := K9.lt
      have hl10' := K10.lt
      have hl11 := K11.lt
      have hl4' := K4.lt
      have HK11 := Lib.hid K11
      have HR5 := Lib.hid hr5'
      have HR6 := Lib.hid hr6
      have HK3 := Lib.hid K3; have HK4 := Lib.hid K4; have HK9 := Lib.hid K9; have HK10 := Lib.hid K10; have HO9 := Lib.hid O9; have HO10 := Lib.hid O10; clear K3 K4 K9 K10 O9 O10
      have hnE : w5.heap.size ≤ w6.heap.size := hb56.size
      clear h6 hb6 hr5' hr6 K11 hW5 hb56 i0 i1 i2 j0 j1 j2 HP1 HP2
      go_wp2_with fail
      generalize hWd : World.alloc _ _ = v6
      have hW6 : Below w6.heap.size w6 v6 := by subst hWd; (with_reducible repeat (first | assumption | exact Below.refl _ _ | refine Below.setCell ?_ (by first | omega | (simp; done) | (simp; omega)) _ | refine Below.drew ?_ | refine bdrewN ?_ _ | refine Below.alloc ?_ (by first | omega | (simp; done) | (simp; omega)) _))
      have K13 : Blk v6 w6.heap.size 27 #[.int .i64 P1, .int .i64 P2, .slice A6 P3.length k6] := by subst hWd; (with_reducible repeat (first | assumption | (refine Blk.newAt ?_; first | rfl | (simp; done)) | refine Blk.alloc ?_ _ | refine Blk.drew ?_ | refine Blk.other ?_ (by simp) _))
      clear hWd
      have hlp : P3.length ≤ 9223372036854775807 := by omega
      have hEq := vequal_any P1 P2 A5 P3 k5 P1 P2 A6 P3 k6 v6 (HR5.out.below hW6) (HR6.out.below hW6) hlp hlp
      rw [eqB_self] at hEq
      refine hEq.mono ?_; rintro e w7 ⟨rfl, hb7⟩
      have hb67 : Below w6.heap.size w6 w7 := bon hW6 hW6.size hb7
      have hB7 : Below w.heap.size w w7 := bon hB6 hB6.size hb67
      replace K13 := Blk.below hb7 K13
      have K11 := Blk.below hb67 HK11.out
      have K3 := Blk.below hb67 HK3.out; have K4 := Blk.below hb67 HK4.out; have K9 := Blk.below hb67 HK9.out; have K10 := Blk.below hb67 HK10.out; have O9 := ownsBelow hb67 HO9.out; have O10 := ownsBelow hb67 HO10.out
      have HL9 := Lib.hid (fun k (hk : (Value.slice A9 n k9).ownBlock = some k) => (O9.lt k hk).2)
      have HL10 := Lib.hid (fun k (hk : (Value.slice A10 ns k10).ownBlock = some k) => (O10.lt k hk).2)
      obtain ⟨⟨p0, _⟩, ⟨p1, _⟩, p2, _⟩ := K3.c3
      obtain ⟨⟨q0, _⟩, ⟨q1, _⟩, q2, _⟩ := K4.c3
      have HK11 := Lib.hid K11
      have HK13 := Lib.hid K13
      have HK3 := Lib.hid K3; have HK4 := Lib.hid K4; have HK9 := Lib.hid K9; have HK10 := Lib.hid K10; have HO9 := Lib.hid O9; have HO10 := Lib.hid O10; clear K3 K4 K9 K10 O9 O10
      clear hb7 hb67 hW6 K11 K13 hEq l0 l1 l2 m0 m1 m2 HR5 HR6
      go_wp2_with fail
      refine (HB1.out _ hB7).mono ?_; intro e w8 h8; obtain ⟨A8, k8, rfl, hb8, ho8, hk8, hm8, hr8⟩ := bufE_atP h8
      have hB8 : Below w.heap.size w w8 := bon hB7 hB7.size hb8
      have K11 := Blk.below hb8 HK11.out
      have K13 := Blk.below hb8 HK13.out
      have K3 := Blk.below hb8 HK3.out; have K4 := Blk.below hb8 HK4.out; have K9 := Blk.below hb8 HK9.out; have K10 := Blk.below hb8 HK10.out; have O9 := ownsBelow hb8 HO9.out; have O10 := ownsBelow hb8 HO10.out
      obtain ⟨⟨i0, _⟩, ⟨i1, _⟩, i2, _⟩ := K9.c3
      obtain ⟨⟨j0, _⟩, ⟨j1, _⟩, j2, _⟩ := K10.c3
      obtain ⟨⟨l0, m0⟩, ⟨l1, m1⟩, l2, m2⟩ := K11.c3
      have y1 : w5.heap.size ≠ g9 := by omega
      have y2 : w5.heap.size ≠ g10 := by omega
      have y3 : g9 ≠ w5.heap.size := by omega
      have y4 : g10 ≠ w5.heap.size := by omega
      have HK11 := Lib.hid K11
      have HK13 := Lib.hid K13
      have HO8 := Lib.hid ho8
      have hz78 := hb8.size
      have HK3 := Lib.hid K3; have HK4 := Lib.hid K4; have HK9 := Lib.hid K9; have HK10 := Lib.hid K10; have HO9 := Lib.hid O9; have HO10 := Lib.hid O10; clear K3 K4 K9 K10 O9 O10
      clear h8 hb8 ho8 hr8 K11 K13 p0 p1 p2 q0 q1 q2
      go_wp2_with fail
      generalize hWd : World.setCell _ _ _ = v8
      obtain ⟨KE, FE⟩ := HK11.out.set3 (.int .i64 Q1) (.int .i64 Q2) (.slice A8 Q3.length k8)
      have hV8 : Below w.heap.size w v8 := by subst hWd; have := hB5.size; (with_reducible repeat (first | assumption | exact Below.refl _ _ | refine Below.setCell ?_ (by first | omega | (simp; done) | (simp; omega)) _ | refine Below.drew ?_ | refine bdrewN ?_ _ | refine Below.alloc ?_ (by first | omega | (simp; done) | (simp; omega)) _))
      have K11 : Blk v8 w5.heap.size 27 #[.int .i64 Q1, .int .i64 Q2, .slice A8 Q3.length k8] := by subst hWd; exact KE
      have FE' : FrT 0 [27] w8 v8 := by subst hWd; exact FE
      have K3 : Blk v8 w.heap.size 27 #[.int .i64 dw, .int .i64 dh, .slice Ad n c1] := by subst hWd; exact ((HK3.out.other (by simp; omega) _).other (by simp; omega) _).other (by simp; omega) _
      have K4 : Blk v8 (w.heap.size + 1) 27 #[.int .i64 sw, .int .i64 sh, .slice As ns c2] := by subst hWd; exact ((HK4.out.other (by simp; omega) _).other (by simp; omega) _).other (by simp; omega) _
      have K9 : Blk v8 g9 27 #[.int .i64 dw, .int .i64 dh, .slice A9 n k9] := by subst hWd; exact ((HK9.out.other (by simp; omega) _).other (by simp; omega) _).other (by simp; omega) _
      have K10 : Blk v8 g10 27 #[.int .i64 sw, .int .i64 sh, .slice A10 ns k10] := by subst hWd; exact ((HK10.out.other (by simp; omega) _).other (by simp; omega) _).other (by simp; omega) _
      have K13 : Blk v8 w6.heap.size 27 #[.int .i64 P1, .int .i64 P2, .slice A6 P3.length k6] := by subst hWd; exact ((HK13.out.other (by simp; omega) _).other (by simp; omega) _).other (by simp; omega) _
      have O9 := FE'.row HO9.out (.inl rfl)
      have O10 := FE'.row HO10.out (.inl rfl)
      have O8 := FE'.row HO8.out (.inl rfl)
      have hzv8 : w8.heap.size ≤ v8.heap.size := FE'.size
      clear hWd KE FE FE' i0 i1 i2 j0 j1 j2 l0 l1 l2 m0 m1 m2
      have HK11 := Lib.hid K11
      have HK13 := Lib.hid K13
      have HO8 := Lib.hid O8
      refine (HB2.out _ (rd_of O9 HN.out) (rd_of O10 HNS.out)).mono ?_; intro e w9 h9; obtain ⟨A7, k7, rfl, hb9, ho9, hk7, hm7, hr7⟩ := bufE_atP h9
      have HK3 := Lib.hid K3; have HK4 := Lib.hid K4; have HK9 := Lib.hid K9; have HK10 := Lib.hid K10; have HO9 := Lib.hid O9; have HO10 := Lib.hid O10; clear K3 K4 K9 K10 O9 O10
      clear K11 K13 O8
      have hB9 : Below w.heap.size w w9 := bon hV8 hV8.size hb9
      have hz89 : v8.heap.size ≤ w9.heap.size := hb9.size
      have K11 := Blk.below hb9 HK11.out
      have K13 := Blk.below hb9 HK13.out
      have K3 := Blk.below hb9 HK3.out; have K4 := Blk.below hb9 HK4.out; have K9 := Blk.below hb9 HK9.out; have K10 := Blk.below hb9 HK10.out; have O9 := ownsBelow hb9 HO9.out; have O10 := ownsBelow hb9 HO10.out
      have O8 := ownsBelow hb9 HO8.out
      obtain ⟨⟨l0, m0⟩, ⟨l1, m1⟩, l2, m2⟩ := K13.c3
      obtain ⟨⟨i0, j0⟩, ⟨i1, j1⟩, i2, j2⟩ := K11.c3
      have y5 : w6.heap.size ≠ w5.heap.size := by omega
      have y6 : w5.heap.size ≠ w6.heap.size := by omega
      have HK11 := Lib.hid K11
      have HK13 := Lib.hid K13
      have HO8 := Lib.hid O8
      have HO7 := Lib.hid ho9
      have HK3 := Lib.hid K3; have HK4 := Lib.hid K4; have HK9 := Lib.hid K9; have HK10 := Lib.hid K10; have HO9 := Lib.hid O9; have HO10 := Lib.hid O10; clear K3 K4 K9 K10 O9 O10
      clear h9 hb9 ho9 hr7 K11 K13 O8
      go_wp2_with fail
      generalize hWd : World.setCell _ _ _ = v9
      obtain ⟨KE, FE⟩ := HK13.out.set3 (.int .i64 Q1) (.int .i64 Q2) (.slice A7 Q3.length k7)
      have hV9 : Below w.heap.size w v9 := by subst hWd; have := hB6.size; (with_reducible repeat (first | assumption | exact Below.refl _ _ | refine Below.setCell ?_ (by first | omega | (simp; done) | (simp; omega)) _ | refine Below.drew ?_ | refine bdrewN ?_ _ | refine Below.alloc ?_ (by first | omega | (simp; done) | (simp; omega)) _))
      have FE' : FrT 0 [27] w9 v9 := by subst hWd; exact FE
      have K3 : Blk v9 w.heap.size 27 #[.int .i64 dw, .int .i64 dh, .slice Ad n c1] := by subst hWd; exact ((HK3.out.other (by simp; omega) _).other (by simp; omega) _).other (by simp; omega) _
      have K4 : Blk v9 (w.heap.size + 1) 27 #[.int .i64 sw, .int .i64 sh, .slice As ns c2] := by subst hWd; exact ((HK4.out.other (by simp; omega) _).other (by simp; omega) _).other (by simp; omega) _
      have K9 : Blk v9 g9 27 #[.int .i64 dw, .int .i64 dh, .slice A9 n k9] := by subst hWd; exact ((HK9.out.other (by simp; omega) _).other (by simp; omega) _).other (by simp; omega) _
      have K10 : Blk v9 g10 27 #[.int .i64 sw, .int .i64 sh, .slice A10 ns k10] := by subst hWd; exact ((HK10.out.other (by simp; omega) _).other (by simp; omega) _).other (by simp; omega) _
      have K11 : Blk v9 w5.heap.size 27 #[.int .i64 Q1, .int .i64 Q2, .slice A8 Q3.length k8] := by subst hWd; exact ((HK11.out.other (by simp; omega) _).other (by simp; omega) _).other (by simp; omega) _
      have O9 := FE'.row HO9.out (.inl rfl)
      have O10 := FE'.row HO10.out (.inl rfl)
      have O8 := FE'.row HO8.out (.inl rfl)
      have O7 := FE'.row HO7.out (.inl rfl)
      have hzv9 : w9.heap.size ≤ v9.heap.size := FE'.size
      clear hWd KE FE FE' i0 i1 i2 j0 j1 j2 l0 l1 l2 m0 m1 m2
      have hlq : Q3.length ≤ 9223372036854775807 := by omega
      have hEq := vequal_any Q1 Q2 A8 Q3 k8 Q1 Q2 A7 Q3 k7 v9 (rd_of O8 rfl) (rd_of O7 rfl) hlq hlq
      rw [eqB_self] at hEq
      refine hEq.mono ?_; rintro e wt ⟨rfl, hbt⟩
      have HK3 := Lib.hid K3; have HK4 := Lib.hid K4; have HK9 := Lib.hid K9; have HK10 := Lib.hid K10; have HO9 := Lib.hid O9; have HO10 := Lib.hid O10; clear K3 K4 K9 K10 O9 O10
      have HK11 := Lib.hid K11
      clear K11
      have hBt : Below w.heap.size w wt := bon hV9 hV9.size hbt
      have K3 := Blk.below hbt HK3.out; have K4 := Blk.below hbt HK4.out; have K9 := Blk.below hbt HK9.out; have K10 := Blk.below hbt HK10.out; have O9 := ownsBelow hbt HO9.out; have O10 := ownsBelow hbt HO10.out
      have K11 := Blk.below hbt HK11.out
      have O8 := ownsBelow hbt O8
      obtain ⟨m, hm⟩ : ∃ m, Q3.length = m := ⟨_, rfl⟩
      rw [hm] at O8 K11 hlq ⊢
      have HM := Lib.hid hm
      obtain ⟨⟨i0, _⟩, ⟨i1, _⟩, i2, _⟩ := K11.c3
      have hI0 : ∃ L : List Px, FrT w7.heap.size [43] wt wt ∧ wt.ownsRow w7.heap.size 43 4 (.slice A8 m k8) m (pxCells L) ∧ L.length = m := ⟨Q3, FrT.refl _ _ _, O8, hm⟩
      have HI0 := Lib.hid hI0
      have hB8t : w7.heap.size ≤ wt.heap.size := by
        have := hbt.size
        omega
      clear hbt hEq hm O7 hI0
      go_wp2_with fail
      go_loopg [86] m (fun k s86 wr => ∃ i : Nat, k = m - i ∧ i ≤ m ∧ s86 = .int .i64 i ∧ ∃ L : List Px, FrT w7.heap.size [43] wt wr ∧ wr.ownsRow w7.heap.size 43 4 (.slice A8 m k8) m (pxCells L) ∧ L.length = m)
      case atStart => exact ⟨0, by omega, by omega, by first | rfl | simp, HI0.out⟩
      case round =>
        obtain ⟨i, hk, hi, rfl, L, hF, hO, hL⟩ := hrel
        by_cases hlt : i < m
        · have K11r := hF.blk K11 (.inr rfl)
          obtain ⟨⟨i0, _⟩, ⟨i1, _⟩, i2, _⟩ := K11r.c3
          obtain ⟨g, cg, hv, _, _, hg1, hg2, hgc, hgf⟩ := own_px hO (by omega)
          simp only [Value.slice.injEq] at hv
          obtain ⟨rfl, _, rfl⟩ := hv
          obtain ⟨h1, h2⟩ := OwnP.put hO hL.symm hlt ⟨1, 0, 0, 3⟩
          obtain ⟨k0, k1, k2, k3⟩ := pxCells_get L i (by omega)
          obtain ⟨z0, e0⟩ : ∃ v, wr.cell? ⟨g, i * 4, none⟩ = some (.int .u8 v) := ⟨_, hgc _ _ k0⟩
          obtain ⟨z1, e1⟩ : ∃ v, wr.cell? ⟨g, i * 4 + 1, none⟩ = some (.int .u8 v) := ⟨_, hgc _ _ k1⟩
          obtain ⟨z2, e2⟩ : ∃ v, wr.cell? ⟨g, i * 4 + 2, none⟩ = some (.int .u8 v) := ⟨_, hgc _ _ k2⟩
          obtain ⟨z3, e3⟩ : ∃ v, wr.cell? ⟨g, i * 4 + 3, none⟩ = some (.int .u8 v) := ⟨_, hgc _ _ k3⟩
          have f0 := hgf (i * 4)
          have f1 := hgf (i * 4 + 1)
          have f2 := hgf (i * 4 + 2)
          have f3 := hgf (i * 4 + 3)
          have H1 := Lib.hid h1
          have H2 := Lib.hid (hF.trans h2)
          have HLL := Lib.hid hL
          clear hF hO hL h1 h2 hgc hgf k0 k1 k2 k3 HI0
          go_wp2_with fail
          go_roundg (m - (i + 1))
          case measure => omega
          case rel => exact ⟨i + 1, by omega, by omega, by first | rfl | simp, _, H2.out, H1.out, by rw [List.length_set]; exact HLL.out⟩
        · obtain rfl : m = i := by omega
          have K3r := hF.blk K3 (.inr rfl)
          have K4r := hF.blk K4 (.inr rfl)
          have K9r := hF.blk K9 (.inr rfl)
          have K10r := hF.blk K10 (.inr rfl)
          have O9r := hF.row O9 (.inr fun g hg => HL9.out g hg)
          have O10r := hF.row O10 (.inr fun g hg => HL10.out g hg)
          have hBr : Below w.heap.size w wr := hBt.trans ((hF.toBelow hB8t).mono hB7.size)
          obtain ⟨⟨p0, _⟩, ⟨p1, _⟩, p2, _⟩ := K3r.c3
          obtain ⟨⟨q0, _⟩, ⟨q1, _⟩, q2, _⟩ := K9r.c3
          have HK4 := Lib.hid K4r
          have HK10 := Lib.hid K10r
          have HO10 := Lib.hid O10r
          have hn5 : d.length ≤ 9223372036854775807 := by rw [HN.out]; omega
          have hn6 : s.length ≤ 9223372036854775807 := by rw [HNS.out]; omega
          have hE1 := vequal_any dw dh Ad d c1 dw dh A9 d k9 wr (HRD.out.below hBr) (rd_of O9r HN.out) hn5 hn5
          rw [eqB_self, HN.out] at hE1
          have HE1 := Lib.hid hE1
          clear hF hO hL K3 K4 K9 K10 K11 O9 O10 O9r O10r K3r K4r K9r K10r hE1 HI0 O8
          go_wp2_with fail
          refine HE1.out.mono ?_; rintro e wu ⟨rfl, hbu⟩
          have hBu : Below w.heap.size w wu := bon hBr hBr.size hbu
          have K4u := Blk.below hbu HK4.out
          have K10u := Blk.below hbu HK10.out
          have O10u := ownsBelow hbu HO10.out
          obtain ⟨⟨q0, _⟩, ⟨q1, _⟩, q2, _⟩ := K4u.c3
          obtain ⟨⟨j0, _⟩, ⟨j1, _⟩, j2, _⟩ := K10u.c3
          have hE2 := vequal_any sw sh As s c2 sw sh A10 s k10 wu (HRS.out.below hBu) (rd_of O10u HNS.out) hn6 hn6
          rw [eqB_self, HNS.out] at hE2
          have HE2 := Lib.hid hE2
          clear hbu K4u K10u O10u hE2 p0 p1 p2 HE1
          go_wp2_with fail
          refine HE2.out.mono ?_; rintro e wv ⟨rfl, hbv⟩
          have hBv : Below w.heap.size w wv := bon hBu hBu.size hbv
          clear hbv
          go_wp2_with fail
          (refine (lbex_true _).mono ?_; rintro e wx ⟨rfl, hb_wx⟩; have hBx : Below w.heap.size w wx := bon hBv (by first | exact (hBv).size | (simp; omega)) hb_wx; clear hb_wx; go_wp2_with fail; go_ret; exact ⟨rfl, hBx⟩)
    · rw [decide_eq_false s2] at hS2
      have HS2 := Lib.hid hS2
      clear hS2 hC1 hC2 okd oks
      go_enter Try.func10, Try.ntmps10; go_wp2_with fail; refine (HS1.out _).mono ?_; rintro e wa ⟨rfl, hb_w1⟩; have hB_wa : Below w.heap.size w wa := bon (by (with_reducible repeat (first | assumption | exact Below.refl _ _ | refine Below.setCell ?_ (by first | omega | (simp; done) | (simp; omega)) _ | refine Below.drew ?_ | refine bdrewN ?_ _ | refine Below.alloc ?_ (by first | omega | (simp; done) | (simp; omega)) _))) (by simp; try omega) hb_w1; have K3 : Blk wa w.heap.size 27 #[.int .i64 dw, .int .i64 dh, .slice Ad n c1] := Blk.below hb_w1 (by (with_reducible repeat (first | assumption | (refine Blk.newAt ?_; first | rfl | (simp; done)) | refine Blk.alloc ?_ _ | refine Blk.drew ?_ | refine Blk.other ?_ (by simp) _))); have K4 : Blk wa (w.heap.size + 1) 27 #[.int .i64 sw, .int .i64 sh, .slice As ns c2] := Blk.below hb_w1 (by (with_reducible repeat (first | assumption | (refine Blk.newAt ?_; first | rfl | (simp; done)) | refine Blk.alloc ?_ _ | refine Blk.drew ?_ | refine Blk.other ?_ (by simp) _))); have K5 : Blk wa (w.heap.size + 1 + 1) 41 #[.int .i64 x, .int .i64 y] := Blk.below hb_w1 (by (with_reducible repeat (first | assumption | (refine Blk.newAt ?_; first | rfl | (simp; done)) | refine Blk.alloc ?_ _ | refine Blk.drew ?_ | refine Blk.other ?_ (by simp) _))); clear hb_w1
      obtain ⟨⟨q0, _⟩, ⟨q1, _⟩, q2, _⟩ := K4.c3
      clear K3 K4 K5
      go_wp2_with fail
      refine (HS2.out _).mono ?_; rintro e wb ⟨rfl, hb2⟩
      have hB_wb : Below w.heap.size w wb := bon hB_wa hB_wa.size hb2
      clear hb2
      go_wp2_with fail
      (refine (lbex_true _).mono ?_; rintro e wx ⟨rfl, hb_wx⟩; have hBx : Below w.heap.size w wx := bon hB_wb (by first | exact (hB_wb).size | (simp; omega)) hb_wx; clear hb_wx; go_wp2_with fail; go_ret; exact ⟨rfl, hBx⟩)
  · rw [decide_eq_false s1] at hS1
    have HS1 := Lib.hid hS1
    clear hS1 hS2 hC1 hC2 okd oks
    go_enter Try.func10, Try.ntmps10; go_wp2_with fail; refine (HS1.out _).mono ?_; rintro e wa ⟨rfl, hb_w1⟩; have hB_wa : Below w.heap.size w wa := bon (by (with_reducible repeat (first | assumption | exact Below.refl _ _ | refine Below.setCell ?_ (by first | omega | (simp; done) | (simp; omega)) _ | refine Below.drew ?_ | refine bdrewN ?_ _ | refine Below.alloc ?_ (by first | omega | (simp; done) | (simp; omega)) _))) (by simp; try omega) hb_w1; have K3 : Blk wa w.heap.size 27 #[.int .i64 dw, .int .i64 dh, .slice Ad n c1] := Blk.below hb_w1 (by (with_reducible repeat (first | assumption | (refine Blk.newAt ?_; first | rfl | (simp; done)) | refine Blk.alloc ?_ _ | refine Blk.drew ?_ | refine Blk.other ?_ (by simp) _))); have K4 : Blk wa (w.heap.size + 1) 27 #[.int .i64 sw, .int .i64 sh, .slice As ns c2] := Blk.below hb_w1 (by (with_reducible repeat (first | assumption | (refine Blk.newAt ?_; first | rfl | (simp; done)) | refine Blk.alloc ?_ _ | refine Blk.drew ?_ | refine Blk.other ?_ (by simp) _))); have K5 : Blk wa (w.heap.size + 1 + 1) 41 #[.int .i64 x, .int .i64 y] := Blk.below hb_w1 (by (with_reducible repeat (first | assumption | (refine Blk.newAt ?_; first | rfl | (simp; done)) | refine Blk.alloc ?_ _ | refine Blk.drew ?_ | refine Blk.other ?_ (by simp) _))); clear hb_w1
    clear K3 K4 K5
    go_wp2_with fail
    (refine (lbex_true _).mono ?_; rintro e wx ⟨rfl, hb_wx⟩; have hBx : Below w.heap.size w wx := bon hB_wa (by first | exact (hB_wa).size | (simp; omega)) hb_wx; clear hb_wx; go_wp2_with fail; go_ret; exact ⟨rfl, hBx⟩)
end Go.Proofs.Ytgikmcgoaihggaa
