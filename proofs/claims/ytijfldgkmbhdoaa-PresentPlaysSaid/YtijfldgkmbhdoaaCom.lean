/- Commit, of the program and of the reference. -/
import Derived.Test.YtijfldgkmbhdoaaSup
import Derived.Deep.RegionLaw
set_option linter.unusedVariables false
set_option linter.unusedSimpArgs false
namespace Go.Proofs.Ytijfldgkmbhdoaa
open Go.RowKit
attribute [local go_sem ↓] Go.wp_at_zero Go.wp_at_succ

theorem el_u32 : El Try.prog 43 42 1 4 := El.of (z := .int .u32 0) Try.underlying43 (by kernel_rfl) rfl (by decide)
theorem el_cmt : El Try.prog 76 84 2 32 := El.of (z := .agg #[.int .i64 0, .slice none 0 0]) Try.underlying76 (by kernel_rfl) rfl (by decide)
theorem el_item : El Try.prog 55 87 2 32 := El.of (z := .agg #[.int .i64 0, .slice none 0 0]) Try.underlying55 (by kernel_rfl) rfl (by decide)
theorem el_del : El Try.prog 45 48 9 72 := El.of (z := .agg #[.int .i64 0, .int .i64 0, .int .i64 0, .int .i64 0, .int .i64 0, .int .i64 0, .int .i64 0, .int .i64 0, .int .u32 0]) Try.underlying45 (by kernel_rfl) rfl (by decide)

theorem pcommit_nil (s : Int) (cb : Value) (w : World) : Calls Try.prog 21 #[.pointer none, .int .i64 s, cb] w fun e w' => e = .returned (.int .i64 1) ∧ w = w' := by
  go_enter Try.func21, Try.ntmps21
  go_wp2_with (go_at_call 44; refine (pusable_nil _).mono ?_; rintro e w' ⟨rfl, rfl⟩)
  go_ret
  exact ⟨rfl, rfl⟩
theorem pcommit_range (p : Nat) (iv s : Int) (cb : Value) (w : World) (hc : w.cell? ⟨p, 0, none⟩ = some (.int .i64 iv)) (h : 1 ≤ iv) (hs : s < 1) :
    Calls Try.prog 21 #[.pointer (some ⟨p, 0, none⟩), .int .i64 s, cb] w fun e w' => e = .returned (.int .i64 6) ∧ w = w' := by
  go_enter Try.func21, Try.ntmps21
  go_wp2_with (go_at_call 44; refine (pusable_yes _ _ _ hc h).mono ?_; rintro e w' ⟨rfl, rfl⟩)
  go_ret
  exact ⟨rfl, rfl⟩
set_option maxRecDepth 100000 in
theorem pcommit_limit (B p : Nat) (iv now s : Int) (qv : Value) (its : List Itm) (ad : Option Addr) (m c : Nat) (w : World) (k : Clk w B p iv now qv its) (hs : 1 ≤ s) (h : 256 ≤ its.length ∨ 256 < m) (hm : m ≤ 9223372036854775807) :
    Calls Try.prog 21 #[.pointer (some ⟨p, 0, none⟩), .int .i64 s, .slice ad m c] w fun e w' => e = .returned (.int .i64 5) ∧ w = w' := by
  obtain ⟨⟨c0, _⟩, ⟨c1, _⟩, c2, _⟩ := k.blk.c3
  obtain ⟨qa, qc, rfl, _, _⟩ := slice_len k.que.row
  have hl := k.que.len
  have hi := k.ivr
  clear k c1
  generalize its.length = n at *
  by_cases h1 : 256 ≤ n
  · go_enter Try.func21, Try.ntmps21
    go_wp2_with (go_at_call 44; refine (pusable_yes _ _ _ c0 hi.1).mono ?_; rintro e w' ⟨rfl, rfl⟩)
    go_ret
    exact ⟨rfl, rfl⟩
  · have h2 : 256 < m := by omega
    go_enter Try.func21, Try.ntmps21
    go_wp2_with (go_at_call 44; refine (pusable_yes _ _ _ c0 hi.1).mono ?_; rintro e w' ⟨rfl, rfl⟩)
    go_ret
    exact ⟨rfl, rfl⟩
/-- What a commit leaves. -/
def Committed (w : World) (B p : Nat) (iv now : Int) (its : List Itm) (s : Int) (cbs : List Int) (e : Ending) (w' : World) : Prop :=
  e = .returned (.int .i64 0) ∧ FrT B [78, 84] w w' ∧ ∃ qv' cv', Clk w' B p iv now qv' (its ++ [⟨s, cv', cbs⟩])
def CommittedX (w : World) (B p : Nat) (iv now : Int) (its : List Itm) (s : Int) (cbs : List Int) (e : Ending) (w' : World) : Prop :=
  e = .returned (.int .i64 0) ∧ FrT B [78, 84] w w' ∧ ∃ qv' cv', Clk w' B p iv now qv' (its ++ [⟨s, cv', cbs⟩]) ∧ U32s w' w.heap.size cv' cbs
theorem commit_end {w w1 w2 : World} {B p : Nat} {iv now s : Int} {qv q2 cv : Value} {its : List Itm} {cbs : List Int} {o : Obj} (k : Clk w B p iv now qv its) (f1 : FrT w.heap.size [42] w w1)
    (r1 : w1.ownsRow w.heap.size 42 1 cv cbs.length (cbs.map (Value.int .u32))) (f2 : FrT B [84] (w1.alloc o) w2) (k2 : Blk w2 p 78 #[.int .i64 iv, .int .i64 now, qv])
    (r2 : w2.ownsRow B 84 2 q2 (its.length + 1) (itCells its ++ [.int .i64 s, cv])) (hs : 1 ≤ s ∧ s < 9223372036854775808) (hl : its.length < 256) (hm : cbs.length ≤ 256) (hz : ∀ z ∈ cbs, 0 ≤ z ∧ z < 4294967296) :
    FrT B [78, 84] w (w2.setCell ⟨p, 2, none⟩ q2) ∧ ∃ qv' cv', Clk (w2.setCell ⟨p, 2, none⟩ q2) B p iv now qv' (its ++ [⟨s, cv', cbs⟩]) ∧ U32s (w2.setCell ⟨p, 2, none⟩ q2) w.heap.size cv' cbs := by
  have hpl := k.blk.lt
  have hBp := k.base
  have g1 : FrT B [84] w w2 := ((f1.lift B [84]).alloc o).trans f2
  have g3 : FrT B [78] w2 (w2.setCell ⟨p, 2, none⟩ q2) := (FrT.refl _ _ _).set k2 rfl hBp q2
  have g4 : FrT B [78, 84] w (w2.setCell ⟨p, 2, none⟩ q2) := (g1.mono (Nat.le_refl _) (by simp)).trans (g3.mono (Nat.le_refl _) (by simp))
  have u0 : U32s w1 w.heap.size cv cbs := ⟨r1, hz⟩
  have u9 : U32s (w2.setCell ⟨p, 2, none⟩ q2) w.heap.size cv cbs := ((u0.row' ((FrT.refl 0 [] w1).alloc o) rfl).row' f2 rfl).row' g3 rfl
  refine ⟨g4, q2, cv, ⟨hBp, k2.set 2 q2, ⟨?_, ?_, ?_, ?_, ?_⟩, k.ivr, k.nowr⟩, u9⟩
  · have := g3.row r2 (.inl rfl)
    rw [itCells_append]
    simpa [itCells] using this
  · intro x hx
    rcases List.mem_append.1 hx with hx | hx
    · exact (k.que.cbs x hx).row' g4 rfl
    · simp only [List.mem_singleton] at hx
      subst hx
      have u1 : U32s w1 w.heap.size cv cbs := ⟨r1, hz⟩
      exact ((((u1.row' ((FrT.refl 0 [] w1).alloc o) rfl).row' f2 rfl).row' g3 rfl)).mono (by omega)
  · simp; omega
  · intro x hx
    rcases List.mem_append.1 hx with hx | hx
    · exact k.que.clen x hx
    · simp only [List.mem_singleton] at hx
      subst hx
      exact hm
  · intro x hx
    rcases List.mem_append.1 hx with hx | hx
    · exact k.que.srng x hx
    · simp only [List.mem_singleton] at hx
      subst hx
      exact ⟨by have := hs.1; simp only; omega, hs.2⟩
set_option maxRecDepth 100000 in
set_option maxHeartbeats 1000000 in
theorem pcommit_okx (B p : Nat) (iv now s : Int) (qv : Value) (its : List Itm) (cb : Value) (cbs : List Int) (w : World) (k : Clk w B p iv now qv its) (hs : 1 ≤ s ∧ s < 9223372036854775808)
    (hl : its.length < 256) (hcb : Src w 1 cb cbs.length (cbs.map (Value.int .u32))) (hm : cbs.length ≤ 256) (hz : ∀ z ∈ cbs, 0 ≤ z ∧ z < 4294967296) :
    Calls Try.prog 21 #[.pointer (some ⟨p, 0, none⟩), .int .i64 s, cb] w (CommittedX w B p iv now its s cbs) := by
  obtain ⟨⟨c0, f0⟩, ⟨c1, f1⟩, c2, f2⟩ := k.blk.c3
  obtain ⟨qa, qc, hq, _, _⟩ := slice_len k.que.row
  have hcf : ∃ ad c, cb = .slice ad cbs.length c := by
    rcases hcb.2.2 with ⟨rfl, h0⟩ | ⟨ad, c, rfl, _⟩
    · exact ⟨_, _, by rw [h0]⟩
    · exact ⟨_, _, rfl⟩
  obtain ⟨ca, cc, rfl⟩ := hcf
  subst hq
  have hi := k.ivr
  have hpl := k.blk.lt
  clear c1 f1
  obtain ⟨n, hn⟩ : ∃ n, its.length = n := ⟨_, rfl⟩
  obtain ⟨m, hmm⟩ : ∃ n, cbs.length = n := ⟨_, rfl⟩
  have HN := Lib.hid hn
  have HM := Lib.hid hmm
  have HR : w.ownsRow B 84 2 (.slice qa n qc) n (itCells its) := by have := k.que.row; rw [hn] at this; exact this
  have HS := hcb
  rw [hmm] at HS
  have HKB : Blk w p 78 #[.int .i64 iv, .int .i64 now, .slice qa n qc] := by have := k.blk; rw [hn] at this; exact this
  have HKB' := Lib.hid HKB
  have HK := Lib.hid k
  have HB := k.base
  rw [hn] at hl c2
  rw [hmm] at hm
  clear k hcb
  rw [hmm]
  clear hn hmm
  have HRR := Lib.hid HR
  have HSS := Lib.hid HS
  clear HR HS HKB
  go_enter Try.func21, Try.ntmps21
  go_wp2_with (go_at_call 44; refine (pusable_yes _ _ _ c0 hi.1).mono ?_; rintro e w' ⟨rfl, rfl⟩)
  go_region_law (first
    | (refine step_app _ [42] rfl el_u32 (.const (.slice none 0 0)) (.tmp 32) rfl w.heap.size (.slice none 0 0) 0 [] rfl (World.ownsRow_nil _ _ _ _) (.slice ca m cc) m (cbs.map (Value.int .u32)) rfl HSS.out (by omega) (by decide) (by simp) rfl ?_; intro v1 w1 hr1 hf1; simp only [Nat.zero_add, List.nil_append] at hr1; obtain ⟨a1, c1, hv1, _, _⟩ := slice_len hr1; subst hv1; have K1 := hf1.blk HKB'.out (.inr rfl); obtain ⟨_, _, d2, e2⟩ := K1.c3; have hp1 := K1.lt; have hz1 := hf1.size; simp at hz1; have HR1 := Lib.hid hr1; have HF1 := Lib.hid hf1; have HK1 := Lib.hid K1; clear hr1 hf1 K1)
    | (refine step_app _ [84] rfl el_cmt (.tmp 30) (.tmp 35) rfl B (.slice qa n qc) n (itCells its) rfl ((HF1.out.row HRR.out (.inl rfl)).alloc _) (.slice (some ⟨w1.heap.size, 0, none⟩) 1 1) 1 [.int .i64 s, .slice a1 m c1] rfl (Src.blk (cs := #[.int .i64 s, .slice a1 m c1]) (Blk.newAt rfl) rfl (by simp [Value.oneCell']) 1) (by omega) (by decide) (by simp; omega) rfl ?_; intro v2 w2 hr2 hf2; have K2 := hf2.blk (HK1.out.alloc _) (.inr rfl); obtain ⟨_, _, d3, e3⟩ := K2.c3; have HR2 := Lib.hid hr2; have HF2 := Lib.hid hf2; have HK2 := Lib.hid K2; obtain ⟨a2, c2', hv2, _, _⟩ := slice_len hr2; subst hv2; clear hr2 hf2 K2))
  all_goals
    go_wp2
    go_ret
    refine ⟨rfl, ?_⟩
    have hn := HN.out
    have hmm := HM.out
    subst hn
    subst hmm
    exact commit_end HK.out HF1.out.undrew HR1.out HF2.out HK2.out HR2.out hs hl hm hz
theorem pcommit_ok (B p : Nat) (iv now s : Int) (qv : Value) (its : List Itm) (cb : Value) (cbs : List Int) (w : World) (k : Clk w B p iv now qv its) (hs : 1 ≤ s ∧ s < 9223372036854775808)
    (hl : its.length < 256) (hcb : Src w 1 cb cbs.length (cbs.map (Value.int .u32))) (hm : cbs.length ≤ 256) (hz : ∀ z ∈ cbs, 0 ≤ z ∧ z < 4294967296) :
    Calls Try.prog 21 #[.pointer (some ⟨p, 0, none⟩), .int .i64 s, cb] w (Committed w B p iv now its s cbs) :=
  (pcommit_okx B p iv now s qv its cb cbs w k hs hl hcb hm hz).mono fun _ _ ⟨h1, h2, qv', cv', h3, _⟩ => ⟨h1, h2, qv', cv', h3⟩
end Go.Proofs.Ytijfldgkmbhdoaa
