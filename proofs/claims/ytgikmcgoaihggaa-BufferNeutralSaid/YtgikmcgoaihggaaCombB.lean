/- The program's combine, Paste and BlendOver. -/
import Derived.Test.YtgikmcgoaihggaaComb
set_option linter.unusedVariables false
set_option linter.unusedSimpArgs false
namespace Go.Proofs.Ytgikmcgoaihggaa
open Go.RowKit Go.Sort
attribute [local go_sem ↓] Go.wp_at_zero Go.wp_at_succ

set_option maxRecDepth 100000 in
set_option maxHeartbeats 1000000 in
theorem comb_bad (dw dh : Int) (Ad : Option Addr) (d : List Px) (c1 : Nat) (sw sh : Int) (As : Option Addr) (s : List Px) (c2 : Nat) (x y : Int) (F : FuncId) (w : World) (rd : Rdp w Ad d) (rs : Rdp w As s) (hl1 : d.length ≤ 9223372036854775807) (hl2 : s.length ≤ 9223372036854775807)
    (h : ¬ (bufB dw dh d = true ∧ bufB sw sh s = true)) : Calls Try.prog 59 #[bufv dw dh (.slice Ad d.length c1), bufv sw sh (.slice As s.length c2), .int .i64 x, .int .i64 y, .func (Fn.func F) #[] #[]] w (BufE w (0, 0, []) 15) := by
  have hVd := fun W0 (hb : Below w.heap.size w W0) => bvalid_any dw dh Ad d c1 W0 (rd.below hb) hl1
  have hVs := fun W0 (hb : Below w.heap.size w W0) => bvalid_any sw sh As s c2 W0 (rs.below hb) hl2
  cases kd : bufB dw dh d with
  | false =>
    rw [kd] at hVd
    have HVd := Lib.hid hVd
    generalize d.length = n at *
    generalize s.length = ns at *
    clear hVd hVs h rd rs kd
    go_enter Try.func59, Try.ntmps59
    go_wp2_with fail
    refine (HVd.out _ (by (with_reducible repeat (first | assumption | exact Below.refl _ _ | refine Below.setCell ?_ (by first | omega | (simp; done) | (simp; omega)) _ | refine Below.drew ?_ | refine bdrewN ?_ _ | refine Below.alloc ?_ (by first | omega | (simp; done) | (simp; omega)) _)))).mono ?_; rintro e w2 ⟨rfl, hb_w2⟩
    have hB2 : Below w.heap.size w w2 := bon (by (with_reducible repeat (first | assumption | exact Below.refl _ _ | refine Below.setCell ?_ (by first | omega | (simp; done) | (simp; omega)) _ | refine Below.drew ?_ | refine bdrewN ?_ _ | refine Below.alloc ?_ (by first | omega | (simp; done) | (simp; omega)) _))) (by simp; try omega) hb_w2
    have K10 : Blk w2 (w.heap.size + 1 + 1) 27 #[.int .i64 0, .int .i64 0, .slice none 0 0] := Blk.below hb_w2 (by (with_reducible repeat (first | assumption | (refine Blk.newAt ?_; first | rfl | (simp; done)) | refine Blk.alloc ?_ _ | refine Blk.drew ?_ | refine Blk.other ?_ (by simp) _)))
    clear hb_w2
    obtain ⟨⟨p0, q0⟩, ⟨p1, q1⟩, p2, q2⟩ := K10.c3; have HK10 := Lib.hid K10; clear K10; go_wp2_with fail; obtain ⟨KE, FE⟩ := HK10.out.set3 (.int .i64 0) (.int .i64 0) (.slice none 0 0); refine bodyPost_ret (results_ct rfl _ KE rfl Try.underlying27 rfl (by kernel_rfl)) rfl ?_; exact ⟨_, rfl, by (with_reducible repeat (first | assumption | exact Below.refl _ _ | refine Below.setCell ?_ (by first | omega | (simp; done) | (simp; omega)) _ | refine Below.drew ?_ | refine bdrewN ?_ _ | refine Below.alloc ?_ (by first | omega | (simp; done) | (simp; omega)) _)), World.ownsRow_nil _ _ _ _⟩
  | true =>
    have ks : bufB sw sh s = false := by
      cases k : bufB sw sh s with
      | false => rfl
      | true => exact absurd ⟨kd, k⟩ h
    rw [kd] at hVd
    rw [ks] at hVs
    have HVd := Lib.hid hVd
    have HVs := Lib.hid hVs
    generalize d.length = n at *
    generalize s.length = ns at *
    clear hVd hVs h rd rs kd ks
    go_enter Try.func59, Try.ntmps59
    go_wp2_with fail
    refine (HVd.out _ (by (with_reducible repeat (first | assumption | exact Below.refl _ _ | refine Below.setCell ?_ (by first | omega | (simp; done) | (simp; omega)) _ | refine Below.drew ?_ | refine bdrewN ?_ _ | refine Below.alloc ?_ (by first | omega | (simp; done) | (simp; omega)) _)))).mono ?_; rintro e w2 ⟨rfl, hb_w2⟩
    have hB2 : Below w.heap.size w w2 := bon (by (with_reducible repeat (first | assumption | exact Below.refl _ _ | refine Below.setCell ?_ (by first | omega | (simp; done) | (simp; omega)) _ | refine Below.drew ?_ | refine bdrewN ?_ _ | refine Below.alloc ?_ (by first | omega | (simp; done) | (simp; omega)) _))) (by simp; try omega) hb_w2
    have K6 : Blk w2 (w.heap.size + 1) 27 #[.int .i64 sw, .int .i64 sh, .slice As ns c2] := Blk.below hb_w2 (by (with_reducible repeat (first | assumption | (refine Blk.newAt ?_; first | rfl | (simp; done)) | refine Blk.alloc ?_ _ | refine Blk.drew ?_ | refine Blk.other ?_ (by simp) _)))
    have K10 : Blk w2 (w.heap.size + 1 + 1) 27 #[.int .i64 0, .int .i64 0, .slice none 0 0] := Blk.below hb_w2 (by (with_reducible repeat (first | assumption | (refine Blk.newAt ?_; first | rfl | (simp; done)) | refine Blk.alloc ?_ _ | refine Blk.drew ?_ | refine Blk.other ?_ (by simp) _)))
    obtain ⟨⟨d0, _⟩, ⟨d1, _⟩, d2, _⟩ := K6.c3
    have HK10 := Lib.hid K10
    clear hb_w2 K10
    go_wp2_with fail
    refine (HVs.out _ hB2).mono ?_; rintro e w3 ⟨rfl, hb_w3⟩
    have hB3 : Below w.heap.size w w3 := bon hB2 hB2.size hb_w3
    have K10 := Blk.below hb_w3 HK10.out
    clear HK10 d0 d1 d2 hb_w3 hB2 K6
    obtain ⟨⟨p0, q0⟩, ⟨p1, q1⟩, p2, q2⟩ := K10.c3; have HK10 := Lib.hid K10; clear K10; go_wp2_with fail; obtain ⟨KE, FE⟩ := HK10.out.set3 (.int .i64 0) (.int .i64 0) (.slice none 0 0); refine bodyPost_ret (results_ct rfl _ KE rfl Try.underlying27 rfl (by kernel_rfl)) rfl ?_; exact ⟨_, rfl, by (with_reducible repeat (first | assumption | exact Below.refl _ _ | refine Below.setCell ?_ (by first | omega | (simp; done) | (simp; omega)) _ | refine Below.drew ?_ | refine bdrewN ?_ _ | refine Below.alloc ?_ (by first | omega | (simp; done) | (simp; omega)) _)), World.ownsRow_nil _ _ _ _⟩
theorem comb_any (F : FuncId) (hEn : ∀ (args : Array Value) (w : World), (callFunc F args).run Try.prog w = .ok (.enter F args) w) (f : Px → Px → Px) (dw dh : Int) (Ad : Option Addr) (d : List Px) (c1 : Nat) (sw sh : Int) (As : Option Addr) (s : List Px) (c2 : Nat) (x y : Int) (w : World) (rd : Rdp w Ad d) (rs : Rdp w As s) (hl1 : d.length ≤ 9223372036854775807) (hl2 : s.length ≤ c2 ∧ c2 ≤ 9223372036854775807)
    (okd : PxsOk d) (oks : PxsOk s) (hC : d.length ≤ 65536 → Chg F f w d.length) (hfo : ∀ p q : Px, p.ok → q.ok → (f p q).ok) : Calls Try.prog 59 #[bufv dw dh (.slice Ad d.length c1), bufv sw sh (.slice As s.length c2), .int .i64 x, .int .i64 y, .func (Fn.func F) #[] #[]] w (BufE w (putB f dw dh d sw sh s x y) (putE dw dh d sw sh s)) := by
  by_cases h : bufB dw dh d = true ∧ bufB sw sh s = true
  · obtain ⟨e1, e2⟩ := put_ok (f := f) x y h
    rw [e1, e2]
    obtain ⟨W, H, rfl, rfl, hW, hH, hd⟩ := bufB_nat h.1
    obtain ⟨SW, SH, rfl, rfl, hSW, hSH, hs⟩ := bufB_nat h.2
    have hHW := Nat.mul_le_mul hH.2 hW.2
    exact comb_run F hEn f W H SW SH Ad As d s c1 c2 x y w rd rs hd hs hW hH hSW hSH h.1 h.2 okd oks hl2 (hC (by omega)) hfo
  · obtain ⟨e1, e2⟩ := put_bad (f := f) x y h
    rw [e1, e2]
    exact comb_bad dw dh Ad d c1 sw sh As s c2 x y F w rd rs hl1 (by omega) h
/-- A call handed on: a buffer and an error. -/
theorem bpaste_any (dw dh : Int) (Ad : Option Addr) (d : List Px) (c1 : Nat) (sw sh : Int) (As : Option Addr) (s : List Px) (c2 : Nat) (x y : Int) (w : World) (rd : Rdp w Ad d) (rs : Rdp w As s) (hl1 : d.length ≤ 9223372036854775807) (hl2 : s.length ≤ c2 ∧ c2 ≤ 9223372036854775807)
    (okd : PxsOk d) (oks : PxsOk s) : Calls Try.prog 32 #[bufv dw dh (.slice Ad d.length c1), bufv sw sh (.slice As s.length c2), .int .i64 x, .int .i64 y] w (BufE w (putB cpy dw dh d sw sh s x y) (putE dw dh d sw sh s)) := by
  have hC := fun W0 (hb : Below w.heap.size w W0) => comb_any 60 enter_paste cpy dw dh Ad d c1 sw sh As s c2 x y W0 (rd.below hb) (rs.below hb) hl1 hl2 okd oks (fun _ => chg_paste _ _) cpy_ok
  generalize putE dw dh d sw sh s = E at *; generalize hP : putB cpy dw dh d sw sh s x y = Bf at *; obtain ⟨B1, B2, B3⟩ := Bf; have hC' : ∀ W0, Below w.heap.size w W0 → Calls Try.prog _ _ W0 fun e w' => ∃ v, e = .returned (.tuple #[bufv B1 B2 v, .int .i64 E]) ∧ Below W0.heap.size W0 w' ∧ OwnP w' W0.heap.size v B3 := hC; have HC := Lib.hid hC'; clear hC'; generalize d.length = n at *; generalize s.length = ns at *; clear hC rd rs hl1 hl2 okd oks hP; go_enter Try.func32, Try.ntmps32; go_wp2_with fail; refine (HC.out _ (by (with_reducible repeat (first | assumption | exact Below.refl _ _ | refine Below.setCell ?_ (by first | omega | (simp; done) | (simp; omega)) _ | refine Below.drew ?_ | refine bdrewN ?_ _ | refine Below.alloc ?_ (by first | omega | (simp; done) | (simp; omega)) _)))).mono ?_; rintro e w2 ⟨v, rfl, hb_w2, ho⟩; have hB2 : Below w.heap.size w w2 := bon (by (with_reducible repeat (first | assumption | exact Below.refl _ _ | refine Below.setCell ?_ (by first | omega | (simp; done) | (simp; omega)) _ | refine Below.drew ?_ | refine bdrewN ?_ _ | refine Below.alloc ?_ (by first | omega | (simp; done) | (simp; omega)) _))) (by simp; try omega) hb_w2; have K10 : Blk w2 (w.heap.size + 1 + 1) 27 #[.int .i64 0, .int .i64 0, .slice none 0 0] := Blk.below hb_w2 (by (with_reducible repeat (first | assumption | (refine Blk.newAt ?_; first | rfl | (simp; done)) | refine Blk.alloc ?_ _ | refine Blk.drew ?_ | refine Blk.other ?_ (by simp) _))); have hw0 : w.heap.size ≤ w2.heap.size := hB2.size; clear hb_w2; obtain ⟨⟨p0, q0⟩, ⟨p1, q1⟩, p2, q2⟩ := K10.c3; have HK10 := Lib.hid K10; obtain ⟨oa, oc, hoe, _, _⟩ := slice_lenB ho; subst hoe; have HO := Lib.hid ho; clear K10 ho; go_wp2_with fail; obtain ⟨KE, FE⟩ := HK10.out.set3 (.int .i64 B1) (.int .i64 B2) (.slice oa B3.length oc); refine bodyPost_ret (results_ct rfl _ KE rfl Try.underlying27 rfl (by kernel_rfl)) rfl ?_; refine ⟨_, rfl, by (with_reducible repeat (first | assumption | exact Below.refl _ _ | refine Below.setCell ?_ (by first | omega | (simp; done) | (simp; omega)) _ | refine Below.drew ?_ | refine bdrewN ?_ _ | refine Below.alloc ?_ (by first | omega | (simp; done) | (simp; omega)) _)), ?_⟩; exact ownsRow_mono (FE.row HO.out (.inl rfl)) (by simp; omega)
theorem bblend_any (dw dh : Int) (Ad : Option Addr) (d : List Px) (c1 : Nat) (sw sh : Int) (As : Option Addr) (s : List Px) (c2 : Nat) (x y : Int) (w : World) (rd : Rdp w Ad d) (rs : Rdp w As s) (hl1 : d.length ≤ 9223372036854775807) (hl2 : s.length ≤ c2 ∧ c2 ≤ 9223372036854775807)
    (okd : PxsOk d) (oks : PxsOk s) : Calls Try.prog 35 #[bufv dw dh (.slice Ad d.length c1), bufv sw sh (.slice As s.length c2), .int .i64 x, .int .i64 y] w (BufE w (putB bld dw dh d sw sh s x y) (putE dw dh d sw sh s)) := by
  have hC := fun W0 (hb : Below w.heap.size w W0) => comb_any 62 enter_blend bld dw dh Ad d c1 sw sh As s c2 x y W0 (rd.below hb) (rs.below hb) hl1 hl2 okd oks (fun h => chg_blend _ _ (by omega)) bld_ok
  generalize putE dw dh d sw sh s = E at *; generalize hP : putB bld dw dh d sw sh s x y = Bf at *; obtain ⟨B1, B2, B3⟩ := Bf; have hC' : ∀ W0, Below w.heap.size w W0 → Calls Try.prog _ _ W0 fun e w' => ∃ v, e = .returned (.tuple #[bufv B1 B2 v, .int .i64 E]) ∧ Below W0.heap.size W0 w' ∧ OwnP w' W0.heap.size v B3 := hC; have HC := Lib.hid hC'; clear hC'; generalize d.length = n at *; generalize s.length = ns at *; clear hC rd rs hl1 hl2 okd oks hP; go_enter Try.func35, Try.ntmps35; go_wp2_with fail; refine (HC.out _ (by (with_reducible repeat (first | assumption | exact Below.refl _ _ | refine Below.setCell ?_ (by first | omega | (simp; done) | (simp; omega)) _ | refine Below.drew ?_ | refine bdrewN ?_ _ | refine Below.alloc ?_ (by first | omega | (simp; done) | (simp; omega)) _)))).mono ?_; rintro e w2 ⟨v, rfl, hb_w2, ho⟩; have hB2 : Below w.heap.size w w2 := bon (by (with_reducible repeat (first | assumption | exact Below.refl _ _ | refine Below.setCell ?_ (by first | omega | (simp; done) | (simp; omega)) _ | refine Below.drew ?_ | refine bdrewN ?_ _ | refine Below.alloc ?_ (by first | omega | (simp; done) | (simp; omega)) _))) (by simp; try omega) hb_w2; have K10 : Blk w2 (w.heap.size + 1 + 1) 27 #[.int .i64 0, .int .i64 0, .slice none 0 0] := Blk.below hb_w2 (by (with_reducible repeat (first | assumption | (refine Blk.newAt ?_; first | rfl | (simp; done)) | refine Blk.alloc ?_ _ | refine Blk.drew ?_ | refine Blk.other ?_ (by simp) _))); have hw0 : w.heap.size ≤ w2.heap.size := hB2.size; clear hb_w2; obtain ⟨⟨p0, q0⟩, ⟨p1, q1⟩, p2, q2⟩ := K10.c3; have HK10 := Lib.hid K10; obtain ⟨oa, oc, hoe, _, _⟩ := slice_lenB ho; subst hoe; have HO := Lib.hid ho; clear K10 ho; go_wp2_with fail; obtain ⟨KE, FE⟩ := HK10.out.set3 (.int .i64 B1) (.int .i64 B2) (.slice oa B3.length oc); refine bodyPost_ret (results_ct rfl _ KE rfl Try.underlying27 rfl (by kernel_rfl)) rfl ?_; refine ⟨_, rfl, by (with_reducible repeat (first | assumption | exact Below.refl _ _ | refine Below.setCell ?_ (by first | omega | (simp; done) | (simp; omega)) _ | refine Below.drew ?_ | refine bdrewN ?_ _ | refine Below.alloc ?_ (by first | omega | (simp; done) | (simp; omega)) _)), ?_⟩; exact ownsRow_mono (FE.row HO.out (.inl rfl)) (by simp; omega)
end Go.Proofs.Ytgikmcgoaihggaa
