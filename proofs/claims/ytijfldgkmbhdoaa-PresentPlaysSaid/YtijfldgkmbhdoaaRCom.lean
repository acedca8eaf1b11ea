/- The reference's Commit. -/
import Derived.Test.YtijfldgkmbhdoaaCom
import Derived.Deep.Cut
set_option linter.unusedVariables false
set_option linter.unusedSimpArgs false
namespace Go.Proofs.Ytijfldgkmbhdoaa
open Go.RowKit
attribute [local go_sem ↓] Go.wp_at_zero Go.wp_at_succ

theorem rcommit_end {w w2 w3 wE : World} {B B1 B2 : Nat} {s : Int} {qv q3 cv : Value} {its : List Itm} {cbs : List Int} {o : Obj} (k : Que w 0 87 qv its) (b3 : Below w.heap.size w w3)
    (r2 : w2.ownsRow B1 42 1 cv cbs.length (cbs.map (Value.int .u32))) (f3 : FrT B2 [87] (w2.alloc o) w3) (r3 : w3.ownsRow B 87 2 q3 (its.length + 1) (itCells its ++ [.int .i64 s, cv])) (fE : FrT 0 [57] w3 wE)
    (hs : 1 ≤ s ∧ s < 9223372036854775808) (hl : its.length < 256) (hm : cbs.length ≤ 256) (hz : ∀ z ∈ cbs, 0 ≤ z ∧ z < 4294967296) : Que wE 0 87 q3 (its ++ [⟨s, cv, cbs⟩]) := by
  have k3 := (k.below b3).carry fE ⟨rfl, rfl⟩
  refine ⟨?_, ?_, ?_, ?_, ?_⟩
  · have := ownsRow_mono (fE.row r3 (.inl rfl)) (Nat.zero_le _)
    rw [itCells_append]
    simpa [itCells] using this
  · intro x hx
    rcases List.mem_append.1 hx with hx | hx
    · exact k3.cbs x hx
    · simp only [List.mem_singleton] at hx
      subst hx
      have u1 : U32s w2 B1 cv cbs := ⟨r2, hz⟩
      exact ((((u1.row' ((FrT.refl 0 [] w2).alloc o) rfl).row' f3 rfl).row' fE rfl)).mono (Nat.zero_le _)
  · simp; omega
  · intro x hx
    rcases List.mem_append.1 hx with hx | hx
    · exact k.clen x hx
    · simp only [List.mem_singleton] at hx
      subst hx
      exact hm
  · intro x hx
    rcases List.mem_append.1 hx with hx | hx
    · exact k.srng x hx
    · simp only [List.mem_singleton] at hx
      subst hx
      exact ⟨by have := hs.1; simp only; omega, hs.2⟩
set_option maxRecDepth 100000 in
theorem rcommit_no (iv last s : Int) (ad : Option Addr) (n c : Nat) (cb : Value) (w : World) :
    Calls Try.prog 27 #[rclk false iv last (.slice ad n c), .int .i64 s, cb] w fun e w' => e = .returned (.tuple #[rclk false iv last (.slice ad n c), .int .i64 1]) ∧ Below w.heap.size w w' := by
  go_enter Try.func27, Try.ntmps27
  go_wp2
  have KE : Blk ((w.alloc (Obj.cells #[.bool false, .int .i64 iv, .int .i64 last, .slice ad n c] 57)).alloc (Obj.cells #[.bool false, .int .i64 iv, .int .i64 last, .slice ad n c] 57)) (w.heap.size + 1) 57 #[.bool false, .int .i64 iv, .int .i64 last, .slice ad n c] := Blk.newAt (by simp)
  (try simp only [Exit.inBlock, Exit.then]); refine bodyPost_ret (results_ct rfl _ KE rfl Try.underlying57 rfl (by kernel_rfl)) rfl ?_
  exact ⟨rfl, by (with_reducible repeat (first | assumption | exact Below.refl _ _ | refine Below.setCell ?_ (by first | omega | (simp; done) | (simp; omega)) _ | refine Below.drew ?_ | refine bdrewN ?_ _ | refine Below.alloc ?_ (by first | omega | (simp; done) | (simp; omega)) _))⟩
set_option maxRecDepth 100000 in
theorem rcommit_range (iv last s : Int) (ad : Option Addr) (n c : Nat) (cb : Value) (w : World) (hs : s < 1) :
    Calls Try.prog 27 #[rclk true iv last (.slice ad n c), .int .i64 s, cb] w fun e w' => e = .returned (.tuple #[rclk true iv last (.slice ad n c), .int .i64 6]) ∧ Below w.heap.size w w' := by
  go_enter Try.func27, Try.ntmps27
  go_wp2
  have KE : Blk ((w.alloc (Obj.cells #[.bool true, .int .i64 iv, .int .i64 last, .slice ad n c] 57)).alloc (Obj.cells #[.bool true, .int .i64 iv, .int .i64 last, .slice ad n c] 57)) (w.heap.size + 1) 57 #[.bool true, .int .i64 iv, .int .i64 last, .slice ad n c] := Blk.newAt (by simp)
  (try simp only [Exit.inBlock, Exit.then]); refine bodyPost_ret (results_ct rfl _ KE rfl Try.underlying57 rfl (by kernel_rfl)) rfl ?_
  exact ⟨rfl, by (with_reducible repeat (first | assumption | exact Below.refl _ _ | refine Below.setCell ?_ (by first | omega | (simp; done) | (simp; omega)) _ | refine Below.drew ?_ | refine bdrewN ?_ _ | refine Below.alloc ?_ (by first | omega | (simp; done) | (simp; omega)) _))⟩
set_option maxRecDepth 100000 in
theorem rcommit_limit (iv last s : Int) (ad ca : Option Addr) (n c m cc : Nat) (w : World) (hs : 1 ≤ s) (hn : n ≤ 256) (h : 256 ≤ n ∨ 256 < m) (hm : m ≤ 9223372036854775807) :
    Calls Try.prog 27 #[rclk true iv last (.slice ad n c), .int .i64 s, .slice ca m cc] w fun e w' => e = .returned (.tuple #[rclk true iv last (.slice ad n c), .int .i64 5]) ∧ Below w.heap.size w w' := by
  have KE : Blk ((w.alloc (Obj.cells #[.bool true, .int .i64 iv, .int .i64 last, .slice ad n c] 57)).alloc (Obj.cells #[.bool true, .int .i64 iv, .int .i64 last, .slice ad n c] 57)) (w.heap.size + 1) 57 #[.bool true, .int .i64 iv, .int .i64 last, .slice ad n c] := Blk.newAt (by simp)
  have HKE := Lib.hid KE
  clear KE
  by_cases h1 : 256 ≤ n
  · clear h
    go_enter Try.func27, Try.ntmps27
    go_wp2
    (try simp only [Exit.inBlock, Exit.then]); refine bodyPost_ret (results_ct rfl _ HKE.out rfl Try.underlying57 rfl (by kernel_rfl)) rfl ?_
    exact ⟨rfl, by (with_reducible repeat (first | assumption | exact Below.refl _ _ | refine Below.setCell ?_ (by first | omega | (simp; done) | (simp; omega)) _ | refine Below.drew ?_ | refine bdrewN ?_ _ | refine Below.alloc ?_ (by first | omega | (simp; done) | (simp; omega)) _))⟩
  · have h2 : 256 < m := by omega
    clear h
    go_enter Try.func27, Try.ntmps27
    go_wp2
    (try simp only [Exit.inBlock, Exit.then]); refine bodyPost_ret (results_ct rfl _ HKE.out rfl Try.underlying57 rfl (by kernel_rfl)) rfl ?_
    exact ⟨rfl, by (with_reducible repeat (first | assumption | exact Below.refl _ _ | refine Below.setCell ?_ (by first | omega | (simp; done) | (simp; omega)) _ | refine Below.drew ?_ | refine bdrewN ?_ _ | refine Below.alloc ?_ (by first | omega | (simp; done) | (simp; omega)) _))⟩
set_option maxRecDepth 100000 in
set_option maxHeartbeats 1000000 in
theorem rcommit_ok (iv last s : Int) (qv : Value) (its : List Itm) (cb : Value) (cbs : List Int) (w : World) (k : Que w 0 87 qv its) (hs : 1 ≤ s ∧ s < 9223372036854775808)
    (hl : its.length < 256) (hcb : Src w 1 cb cbs.length (cbs.map (Value.int .u32))) (hm : cbs.length ≤ 256) (hz : ∀ z ∈ cbs, 0 ≤ z ∧ z < 4294967296) :
    Calls Try.prog 27 #[rclk true iv last qv, .int .i64 s, cb] w fun e w' => ∃ qv' cv', e = .returned (.tuple #[rclk true iv last qv', .int .i64 0]) ∧ Below w.heap.size w w' ∧ Que w' 0 87 qv' (its ++ [⟨s, cv', cbs⟩]) := by
  obtain ⟨qa, qc, hq, _, _⟩ := slice_len k.row
  have hcf : ∃ ad c, cb = .slice ad cbs.length c := by
    rcases hcb.2.2 with ⟨rfl, h0⟩ | ⟨ad, c, rfl, _⟩
    · exact ⟨_, _, by rw [h0]⟩
    · exact ⟨_, _, rfl⟩
  obtain ⟨ca, cc, rfl⟩ := hcf
  subst hq
  obtain ⟨n, hn⟩ : ∃ n, its.length = n := ⟨_, rfl⟩
  obtain ⟨m, hmm⟩ : ∃ n, cbs.length = n := ⟨_, rfl⟩
  have HN := Lib.hid hn
  have HM := Lib.hid hmm
  have HR : w.ownsRow 0 87 2 (.slice qa n qc) n (itCells its) := by have := k.row; rw [hn] at this; exact this
  have HS := hcb
  rw [hmm] at HS
  have HK := Lib.hid k
  rw [hn] at hl
  rw [hmm] at hm
  clear k hcb
  rw [hmm, hn]
  clear hn hmm
  have HRR := Lib.hid HR
  have HSS := Lib.hid HS
  clear HR HS
  go_enter Try.func27, Try.ntmps27
  go_upto_region 8 with (fail)
  generalize hW : World.alloc (World.alloc _ _) _ = W
  have hzW : W.heap.size = w.heap.size + 1 + 1 + 1 := by subst hW; simp
  have hB0 : Below w.heap.size w W := by subst hW; (with_reducible repeat (first | assumption | exact Below.refl _ _ | refine Below.setCell ?_ (by first | omega | (simp; done) | (simp; omega)) _ | refine Below.drew ?_ | refine bdrewN ?_ _ | refine Below.alloc ?_ (by first | omega | (simp; done) | (simp; omega)) _))
  have K3 : Blk W w.heap.size 57 #[.bool true, .int .i64 iv, .int .i64 last, .slice qa n qc] := by subst hW; (with_reducible repeat (first | assumption | (refine Blk.newAt ?_; first | rfl | (simp; done)) | refine Blk.alloc ?_ _ | refine Blk.drew ?_ | refine Blk.other ?_ (by simp) _))
  have K6 : Blk W (w.heap.size + 1) 57 #[.bool false, .int .i64 0, .int .i64 0, .slice none 0 0] := by subst hW; (with_reducible repeat (first | assumption | (refine Blk.newAt ?_; first | rfl | (simp; done)) | refine Blk.alloc ?_ _ | refine Blk.drew ?_ | refine Blk.other ?_ (by simp) _))
  have K8 : Blk W (w.heap.size + 1 + 1) 57 #[.bool true, .int .i64 iv, .int .i64 last, .slice qa n qc] := by subst hW; (with_reducible repeat (first | assumption | (refine Blk.newAt ?_; first | rfl | (simp; done)) | refine Blk.alloc ?_ _ | refine Blk.drew ?_ | refine Blk.other ?_ (by simp) _))
  clear hW
  have HQ : Que W 0 87 (.slice qa its.length qc) its := HK.out.below hB0
  have HQS : Src W 2 (.slice qa n qc) n (itCells its) := by have := HQ.src; rw [HN.out] at this; exact this
  have HQ' := Lib.hid HQ
  have HQS' := Lib.hid HQS
  have HZW := Lib.hid hzW
  have hW1 : w.heap.size < W.heap.size := by omega
  have hW2 : w.heap.size + 1 < W.heap.size := by omega
  have hW3 : w.heap.size + 1 + 1 < W.heap.size := by omega
  obtain ⟨⟨c0, _⟩, ⟨c1, _⟩, ⟨c2, _⟩, c3, _⟩ := K3.c4
  have HK6 := Lib.hid K6
  have HK8 := Lib.hid K8
  clear HQ HQS K3 K6 K8 hzW
  go_wp2_with (first
    | (at_builtin; refine wpList_app _ [87] rfl el_item (.tmp 27) (.tmp 29) rfl W.heap.size (.slice (some ⟨W.heap.size, 0, none⟩) 0 0) 0 [] rfl (ownsRow_empty rfl (Nat.le_refl _)) (.slice qa n qc) n (itCells its) rfl (Src.below ((Below.refl _ _).alloc (Nat.le_refl _) _) HQS'.out) (by omega) (by decide) (by simp) rfl ?_; intro v1 w1 hr1 hf1; simp only [Nat.zero_add, List.nil_append] at hr1; obtain ⟨a1, e1, hv1, _, _⟩ := slice_len hr1; subst hv1; have hb1 : Below W.heap.size W w1 := ((Below.refl _ _).alloc (Nat.le_refl _) _).trans (hf1.toBelow (by simp)); have hz1 := hb1.size; have HR1 := Lib.hid hr1; clear hr1 hf1)
    | (at_builtin; refine wpList_app _ [42] rfl el_u32 (.tmp 32) (.tmp 33) rfl w1.heap.size (.slice (some ⟨w1.heap.size, 0, none⟩) 0 0) 0 [] rfl (ownsRow_empty rfl (Nat.le_refl _)) (.slice ca m cc) m (cbs.map (Value.int .u32)) rfl (Src.below ((bon hB0 hB0.size hb1).alloc (Nat.le_trans hB0.size hz1) _) HSS.out) (by omega) (by decide) (by simp) rfl ?_; intro v2 w2 hr2 hf2; simp only [Nat.zero_add, List.nil_append] at hr2; obtain ⟨a2, e2, hv2, _, _⟩ := slice_len hr2; subst hv2; have hb2 : Below w1.heap.size w1 w2 := ((Below.refl _ _).alloc (Nat.le_refl _) _).trans (hf2.toBelow (by simp)); have hz2 := hb2.size; have HR2 := Lib.hid hr2; clear hr2 hf2)
    | (at_builtin; refine wpList_app _ [87] rfl el_item (.tmp 30) (.tmp 36) rfl W.heap.size (.slice a1 n e1) n (itCells its) rfl ((((FrT.ofBelow hb2 0 []).row HR1.out (.inl rfl))).alloc _) (.slice (some ⟨w2.heap.size, 0, none⟩) 1 1) 1 [.int .i64 s, .slice a2 m e2] rfl (Src.two rfl rfl rfl) (by omega) (by decide) (by simp; omega) rfl ?_; intro v3 w3 hr3 hf3; obtain ⟨a3, e3, hv3, _, _⟩ := slice_len hr3; subst hv3; have hb3 : Below W.heap.size W w3 := (hb1.trans (hb2.mono hz1)).trans (((Below.refl _ _).alloc (Nat.le_trans hz1 hz2) _).trans (hf3.toBelow (by simp; omega))); have K6 := Blk.below hb3 HK6.out; have K8 := Blk.below hb3 HK8.out; obtain ⟨⟨d0, f0⟩, ⟨d1, f1⟩, ⟨d2, f2⟩, d3, f3⟩ := K6.c4; obtain ⟨⟨g0, i0⟩, ⟨g1, i1⟩, ⟨g2, i2⟩, g3, i3⟩ := K8.c4; have HF3 := Lib.hid hf3; have HR3 := Lib.hid hr3; have HK6' := Lib.hid K6; have HK8' := Lib.hid K8; clear hr3 hf3 K6 K8))
  have hn := HN.out
  have hmm := HM.out
  subst hn
  subst hmm
  have K6 := HK6'.out.other (p := ⟨w.heap.size + 1 + 1, 3, none⟩) (by simp) (.slice a3 (its.length + 1) e3)
  obtain ⟨KE, FE⟩ := K6.set4 (.bool true) (.int .i64 iv) (.int .i64 last) (.slice a3 (its.length + 1) e3)
  (try simp only [Exit.inBlock, Exit.then]); refine bodyPost_ret (results_ct rfl _ KE rfl Try.underlying57 rfl (by kernel_rfl)) rfl ?_
  have F8 : FrT 0 [57] w3 (w3.setCell ⟨w.heap.size + 1 + 1, 3, none⟩ (.slice a3 (its.length + 1) e3)) := (FrT.refl 0 _ w3).set HK8'.out rfl (Nat.zero_le _) _
  have F9 := F8.trans FE
  have B3 : Below w.heap.size w w3 := hB0.trans (hb3.mono hB0.size)
  refine ⟨_, .slice a2 cbs.length e2, rfl, ?_, ?_⟩
  · (with_reducible repeat (first | assumption | exact Below.refl _ _ | refine Below.setCell ?_ (by first | omega | (simp; done) | (simp; omega)) _ | refine Below.drew ?_ | refine bdrewN ?_ _ | refine Below.alloc ?_ (by first | omega | (simp; done) | (simp; omega)) _))
  · exact rcommit_end (o := Obj.cells #[.int .i64 s, .slice a2 cbs.length e2] 87) HK.out B3 HR2.out HF3.out HR3.out F9 hs hl hm hz
end Go.Proofs.Ytijfldgkmbhdoaa
