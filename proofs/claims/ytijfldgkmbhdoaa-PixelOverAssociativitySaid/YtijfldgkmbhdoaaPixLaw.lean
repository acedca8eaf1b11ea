/- PixelOverAssociativity returns true for all pixels: the walk through the law. -/
import Derived.Test.YtijfldgkmbhdoaaPixB
import Derived.Test.YtijfldgkmbhdoaaPixPure
import Derived.Deep.CutRange
import Derived.Lib.QuietBelow
import Derived.Test.YtijfldgkmbhdoaaFresh
set_option linter.unusedVariables false
set_option linter.unusedSimpArgs false
namespace Go.Proofs.Ytijfldgkmbhdoaa
open Go.RowKit Go.Sort
attribute [local go_sem ↓] Go.wp_at_zero Go.wp_at_succ
attribute [local go_sem] calm calmAt calmUpon

/-- Over at valid pixels. -/
theorem over_v (sr sg sb sa r g b a : Int) (w : World) (hsr : 0 ≤ sr ∧ sr ≤ sa) (hsg : 0 ≤ sg ∧ sg ≤ sa) (hsb : 0 ≤ sb ∧ sb ≤ sa) (hsa : sa ≤ 255)
    (hr : 0 ≤ r ∧ r ≤ a) (hg : 0 ≤ g ∧ g ≤ a) (hb : 0 ≤ b ∧ b ≤ a) (ha : a ≤ 255) :
    Calls Try.prog 12 #[px sr sg sb sa, px r g b a] w fun e w' => e = .returned (px (ov sr r sa) (ov sg g sa) (ov sb b sa) (ov sa a sa)) ∧ Below w.heap.size w w' := by
  have H := over_any sr sg sb sa r g b a w (by omega) (by omega) (by omega) (by omega) (by omega) (by omega) (by omega) (by omega)
  rw [Int.min_eq_left hsr.2, Int.min_eq_left hsg.2, Int.min_eq_left hsb.2, Int.min_eq_left hr.2, Int.min_eq_left hg.2, Int.min_eq_left hb.2] at H
  exact H

/-- A block that holds just a pixel. -/
def PxBox (w : World) (g : Nat) (r gg b a : Int) : Prop := w.heap[g]? = some (.cells #[.int .u8 r, .int .u8 gg, .int .u8 b, .int .u8 a] 23 (0, 0))
section
variable {w w' : World} {g : Nat} {r gg b a : Int}
theorem PxBox.lt (h : PxBox w g r gg b a) : g < w.heap.size := by
  rcases Nat.lt_or_ge g w.heap.size with hlt | hge
  · exact hlt
  · unfold PxBox at h; rw [Array.getElem?_eq_none hge] at h; cases h
theorem PxBox.new (w : World) (r gg b a : Int) : PxBox (w.alloc (.cells #[.int .u8 r, .int .u8 gg, .int .u8 b, .int .u8 a] 23)) w.heap.size r gg b a := heap_alloc_new w _
theorem PxBox.new' (w : World) (g : Nat) (r gg b a : Int) (hg : g = w.heap.size) : PxBox (w.alloc (.cells #[.int .u8 r, .int .u8 gg, .int .u8 b, .int .u8 a] 23)) g r gg b a := by subst hg; exact heap_alloc_new w _
theorem PxBox.alloc (h : PxBox w g r gg b a) (o : Obj) : PxBox (w.alloc o) g r gg b a := (Below.heap_alloc w o g h.lt).trans h
theorem PxBox.below (h : PxBox w g r gg b a) (hb : Below w.heap.size w w') : PxBox w' g r gg b a := (hb.block g h.lt).trans h
theorem PxBox.drew (h : PxBox w g r gg b a) : PxBox w.drew g r gg b a := h
theorem PxBox.cells (h : PxBox w g r gg b a) : w.cell? ⟨g, 0, none⟩ = some (.int .u8 r) ∧ w.cell? ⟨g, 1, none⟩ = some (.int .u8 gg) ∧ w.cell? ⟨g, 2, none⟩ = some (.int .u8 b) ∧ w.cell? ⟨g, 3, none⟩ = some (.int .u8 a) := by
  unfold PxBox at h
  simp [World.cell?, h]
theorem PxBox.frozen (h : PxBox w g r gg b a) (i : Nat) : w.frozen? ⟨g, i, none⟩ = false := by
  unfold PxBox at h
  simp [World.frozen?, h]
theorem PxBox.far (h : PxBox w g r gg b a) {p : Addr} (hp : g ≠ p.block) (u : Value) : PxBox (w.setCell p u) g r gg b a := (Below.heap_setCell w p u g hp).trans h
theorem PxBox.regrown (h : PxBox w g r gg b a) (d : Nat) (os : Array Obj) : PxBox (grow (redrawn w d) os) g r gg b a := ((below_regrown w d os).block g h.lt).trans h
theorem cells_regrown (h : PxBox w g r gg b a) : (∀ d os, (grow (redrawn w d) os).cell? ⟨g, 0, none⟩ = some (.int .u8 r)) ∧ (∀ d os, (grow (redrawn w d) os).cell? ⟨g, 1, none⟩ = some (.int .u8 gg)) ∧ (∀ d os, (grow (redrawn w d) os).cell? ⟨g, 2, none⟩ = some (.int .u8 b)) ∧ (∀ d os, (grow (redrawn w d) os).cell? ⟨g, 3, none⟩ = some (.int .u8 a)) :=
  ⟨fun d os => (h.regrown d os).cells.1, fun d os => (h.regrown d os).cells.2.1, fun d os => (h.regrown d os).cells.2.2.1, fun d os => (h.regrown d os).cells.2.2.2⟩
theorem PxBox.set4 (h : PxBox w g r gg b a) (r' g' b' a' : Int) : PxBox ((((w.setCell ⟨g, 0, none⟩ (.int .u8 r')).setCell ⟨g, 1, none⟩ (.int .u8 g')).setCell ⟨g, 2, none⟩ (.int .u8 b')).setCell ⟨g, 3, none⟩ (.int .u8 a')) g r' g' b' a' := by
  unfold PxBox at h ⊢
  simp [World.setCell, Array.getElem?_modify, h]
end

set_option maxRecDepth 100000 in
set_option maxHeartbeats 4000000 in
theorem overassoc_any (ar ag ab aa br bg bb ba cr cg cb ca : Int) (w : World)
    (har : 0 ≤ ar ∧ ar ≤ 255) (hag : 0 ≤ ag ∧ ag ≤ 255) (hab : 0 ≤ ab ∧ ab ≤ 255) (haa : 0 ≤ aa ∧ aa ≤ 255)
    (hbr : 0 ≤ br ∧ br ≤ 255) (hbg : 0 ≤ bg ∧ bg ≤ 255) (hbb : 0 ≤ bb ∧ bb ≤ 255) (hba : 0 ≤ ba ∧ ba ≤ 255)
    (hcr : 0 ≤ cr ∧ cr ≤ 255) (hcg : 0 ≤ cg ∧ cg ≤ 255) (hcb : 0 ≤ cb ∧ cb ≤ 255) (hca : 0 ≤ ca ∧ ca ≤ 255) :
    Calls Try.prog 3 #[px ar ag ab aa, px br bg bb ba, px cr cg cb ca] w fun e w' => e = .returned (.bool true) ∧ Below w.heap.size w w' := by
  have rbr := ov_rng (s := min br ba) (d := min cr ca) (al := ba) (dl := ca) (by omega) (by omega) (by omega) (by omega)
  have rbg := ov_rng (s := min bg ba) (d := min cg ca) (al := ba) (dl := ca) (by omega) (by omega) (by omega) (by omega)
  have rbb := ov_rng (s := min bb ba) (d := min cb ca) (al := ba) (dl := ca) (by omega) (by omega) (by omega) (by omega)
  have rar := ov_rng (s := min ar aa) (d := min br ba) (al := aa) (dl := ba) (by omega) (by omega) (by omega) (by omega)
  have rag := ov_rng (s := min ag aa) (d := min bg ba) (al := aa) (dl := ba) (by omega) (by omega) (by omega) (by omega)
  have rab := ov_rng (s := min ab aa) (d := min bb ba) (al := aa) (dl := ba) (by omega) (by omega) (by omega) (by omega)
  go_enter Try.func3, Try.ntmps3
  go_upto_region 0 with fail
  go_cut [3, 4, 5, 6] from 7 (fun s3 s4 s5 s6 wx => ∃ g0 g1 g2 : Nat, s3 = .pointer (some ⟨g0, 0, none⟩) ∧ s4 = .pointer (some ⟨g1, 0, none⟩) ∧ s5 = .pointer (some ⟨g2, 0, none⟩) ∧ s6 = .bool false ∧ PxBox wx g0 ar ag ab aa ∧ PxBox wx g1 br bg bb ba ∧ PxBox wx g2 cr cg cb ca ∧ Below w.heap.size w wx ∧ w.heap.size ≤ g0 ∧ w.heap.size ≤ g1 ∧ w.heap.size ≤ g2 ∧ g0 ≠ g1 ∧ g0 ≠ g2 ∧ g1 ≠ g2)
  case first =>
    go_wp2_with fail
    go_meet
    exact ⟨w.heap.size, w.heap.size + 1, w.heap.size + 1 + 1, rfl, rfl, rfl, rfl, (PxBox.new _ _ _ _ _).alloc _ |>.alloc _, PxBox.new' _ _ _ _ _ _ (by simp) |>.alloc _, PxBox.new' _ _ _ _ _ _ (by simp), by (with_reducible repeat (first | assumption | exact Below.refl _ _ | refine Below.setCell ?_ (by first | omega | (simp; done) | (simp; omega)) _ | refine Below.drew ?_ | refine bdrewN ?_ _ | refine Below.alloc ?_ (by first | omega | (simp; done) | (simp; omega)) _)), by omega, by omega, by omega, by omega, by omega, by omega⟩
  case rest =>
  obtain ⟨g0, g1, g2, rfl, rfl, rfl, rfl, B0, B1, B2, hB, l0, l1, l2, n01, n02, n12⟩ := hcut
  obtain ⟨a0, a1, a2, a3⟩ := B0.cells
  obtain ⟨b0, b1, b2, b3⟩ := B1.cells
  obtain ⟨c0, c1, c2, c3⟩ := B2.cells
  go_upto_region 1 with fail
  go_cut [] from 10 (fun wx => PxBox wx g0 (min ar aa) (min ag aa) (min ab aa) aa ∧ PxBox wx g1 (min br ba) (min bg ba) (min bb ba) ba ∧ PxBox wx g2 (min cr ca) (min cg ca) (min cb ca) ca ∧ Below w.heap.size w wx)
  case first =>
    obtain ⟨a0, a1, a2, a3⟩ := cells_regrown B0
    obtain ⟨b0, b1, b2, b3⟩ := cells_regrown B1
    obtain ⟨c0, c1, c2, c3⟩ := cells_regrown B2
    refine wp_region_calm 6 [] [false, false, false, false, false, false] (by kernel_rfl) (by kernel_rfl) (by decide) (freshOk_of (by kernel_rfl) (by kernel_rfl) (fun x hx => by cases hx)) ?_
    simp only [List.take_succ_cons, List.take_zero, List.drop_succ_cons, List.drop_zero, List.zip_cons_cons, List.zip_nil_left, List.zip_nil_right]
    repeat (first | refine wpCalm_pass ?_ | (refine wpCalm_step (fun K hK => ?_); go_simp; first | (refine hK _ ?_; clear hK K) | (apply Exists.intro; refine ⟨fun _ => ?_, hK _ ?_⟩; (exact clamp_any _ _ _ _ _); clear hK K)))
    first | refine wpCalm_nil ?_ | skip
    intro F wx hF
    obtain rfl := hF.nil
    have hb := hF.below
    clear a0 a1 a2 a3 b0 b1 b2 b3 c0 c1 c2 c3
    replace B0 := B0.below hb; replace B1 := B1.below hb; replace B2 := B2.below hb
    replace hB := bon hB hB.size hb
    clear hb hF
    obtain ⟨a0, a1, a2, a3⟩ := B0.cells
    obtain ⟨b0, b1, b2, b3⟩ := B1.cells
    obtain ⟨c0, c1, c2, c3⟩ := B2.cells
    have f00 := B0.frozen 0; have f01 := B0.frozen 1; have f02 := B0.frozen 2; have f03 := B0.frozen 3
    have f10 := B1.frozen 0; have f11 := B1.frozen 1; have f12 := B1.frozen 2; have f13 := B1.frozen 3
    have f20 := B2.frozen 0; have f21 := B2.frozen 1; have f22 := B2.frozen 2; have f23 := B2.frozen 3
    unfold putL
    go_wp2_with fail
    go_meet
    refine ⟨?_, ?_, ?_, by (with_reducible repeat (first | assumption | exact Below.refl _ _ | refine Below.setCell ?_ (by first | omega | (simp; done) | (simp; omega)) _ | refine Below.drew ?_ | refine bdrewN ?_ _ | refine Below.alloc ?_ (by first | omega | (simp; done) | (simp; omega)) _))⟩
    · exact ((((((((B0.set4 _ _ _ _).far (by simpa using n01) _).far (by simpa using n01) _).far (by simpa using n01) _).far (by simpa using n01) _).far (by simpa using n02) _).far (by simpa using n02) _).far (by simpa using n02) _).far (by simpa using n02) _
    · exact ((((((((B1.far (by simpa using Ne.symm n01) _).far (by simpa using Ne.symm n01) _).far (by simpa using Ne.symm n01) _).far (by simpa using Ne.symm n01) _).set4 _ _ _ _).far (by simpa using n12) _).far (by simpa using n12) _).far (by simpa using n12) _).far (by simpa using n12) _
    · exact ((((((((B2.far (by simpa using Ne.symm n02) _).far (by simpa using Ne.symm n02) _).far (by simpa using Ne.symm n02) _).far (by simpa using Ne.symm n02) _).far (by simpa using Ne.symm n12) _).far (by simpa using Ne.symm n12) _).far (by simpa using Ne.symm n12) _).far (by simpa using Ne.symm n12) _).set4 _ _ _ _
  case rest =>
  obtain ⟨B0, B1, B2, hB⟩ := hcut
  clear a0 a1 a2 a3 b0 b1 b2 b3 c0 c1 c2 c3
  go_upto_region 2 with fail
  go_cut [7, 8] from 16 (fun s7 s8 wx => ∃ g7 g8 : Nat, s7 = .pointer (some ⟨g7, 0, none⟩) ∧ s8 = .pointer (some ⟨g8, 0, none⟩) ∧ PxBox wx g7 (ov (min ar aa) (ov (min br ba) (min cr ca) ba) aa) (ov (min ag aa) (ov (min bg ba) (min cg ca) ba) aa) (ov (min ab aa) (ov (min bb ba) (min cb ca) ba) aa) (ov aa (ov ba ca ba) aa) ∧
     PxBox wx g8 (ov (ov (min ar aa) (min br ba) aa) (min cr ca) (ov aa ba aa)) (ov (ov (min ag aa) (min bg ba) aa) (min cg ca) (ov aa ba aa)) (ov (ov (min ab aa) (min bb ba) aa) (min cb ca) (ov aa ba aa)) (ov (ov aa ba aa) ca (ov aa ba aa)) ∧ Below wc.heap.size wc wx)
  case first =>
    obtain ⟨a0, a1, a2, a3⟩ := cells_regrown B0
    obtain ⟨b0, b1, b2, b3⟩ := cells_regrown B1
    obtain ⟨c0, c1, c2, c3⟩ := cells_regrown B2
    refine wp_region_calm 12 [⟨10, 7, .cells #[.int .u8 0, .int .u8 0, .int .u8 0, .int .u8 0] 23⟩, ⟨11, 8, .cells #[.int .u8 0, .int .u8 0, .int .u8 0, .int .u8 0] 23⟩] [false, false, false, false, false, false, false, false, false, false, true, true] (by kernel_rfl) (by kernel_rfl) (by decide) (freshOk_of (by kernel_rfl) (by kernel_rfl) (by
      intro x hx o ho a w
      simp only [List.mem_cons, List.not_mem_nil, or_false] at hx
      rcases hx with rfl | rfl <;> (simp at ho; subst ho; go_simp))) ?_
    simp only [List.take_succ_cons, List.take_zero, List.drop_succ_cons, List.drop_zero, List.zip_cons_cons, List.zip_nil_left, List.zip_nil_right]
    repeat (first | refine wpCalm_pass ?_ | (refine wpCalm_step (fun K hK => ?_); go_simp; first | (refine hK _ ?_; clear hK K) | (apply Exists.intro; refine ⟨fun _ => ?_, hK _ ?_⟩; (exact over_v _ _ _ _ _ _ _ _ _ (by omega) (by omega) (by omega) (by omega) (by omega) (by omega) (by omega) (by omega)); clear hK K)))
    first | refine wpCalm_nil ?_ | skip
    intro F wx hF
    obtain ⟨g7, g8, hput, hne, hl7, hl8, h7, h8⟩ := hF.two (by decide)
    rw [hput]
    clear hput
    have B7 : PxBox wx g7 0 0 0 0 := h7
    have B8 : PxBox wx g8 0 0 0 0 := h8
    have hb := hF.below
    clear a0 a1 a2 a3 b0 b1 b2 b3 c0 c1 c2 c3 hF h7 h8
    obtain ⟨a0, a1, a2, a3⟩ := B7.cells
    obtain ⟨b0, b1, b2, b3⟩ := B8.cells
    have f00 := B7.frozen 0; have f01 := B7.frozen 1; have f02 := B7.frozen 2; have f03 := B7.frozen 3
    have f10 := B8.frozen 0; have f11 := B8.frozen 1; have f12 := B8.frozen 2; have f13 := B8.frozen 3
    unfold Act.put
    simp only [List.setIfInBounds_toArray]
    go_wp2_with fail
    go_meet
    refine ⟨g7, g8, rfl, rfl, ?_, ?_, by (with_reducible repeat (first | assumption | exact Below.refl _ _ | refine Below.setCell ?_ (by first | omega | (simp; done) | (simp; omega)) _ | refine Below.drew ?_ | refine bdrewN ?_ _ | refine Below.alloc ?_ (by first | omega | (simp; done) | (simp; omega)) _))⟩
    · exact (((((B7.set4 _ _ _ _).far (by simpa using hne) _).far (by simpa using hne) _).far (by simpa using hne) _).far (by simpa using hne) _)
    · exact ((((B8.far (by simpa using Ne.symm hne) _).far (by simpa using Ne.symm hne) _).far (by simpa using Ne.symm hne) _).far (by simpa using Ne.symm hne) _).set4 _ _ _ _
  case rest =>
  obtain ⟨g7, g8, rfl, rfl, B7, B8, hb⟩ := hcut
  replace B0 := B0.below hb; replace B1 := B1.below hb; replace B2 := B2.below hb
  replace hB := bon hB hB.size hb
  clear hb
  have xr := ov_rng (s := min ar aa) (d := ov (min br ba) (min cr ca) ba) (al := aa) (dl := ov ba ca ba) (by omega) (by omega) (by omega) (by omega)
  have xg := ov_rng (s := min ag aa) (d := ov (min bg ba) (min cg ca) ba) (al := aa) (dl := ov ba ca ba) (by omega) (by omega) (by omega) (by omega)
  have xb := ov_rng (s := min ab aa) (d := ov (min bb ba) (min cb ca) ba) (al := aa) (dl := ov ba ca ba) (by omega) (by omega) (by omega) (by omega)
  have yr := ov_rng (s := ov (min ar aa) (min br ba) aa) (d := min cr ca) (al := ov aa ba aa) (dl := ca) (by omega) (by omega) (by omega) (by omega)
  have yg := ov_rng (s := ov (min ag aa) (min bg ba) aa) (d := min cg ca) (al := ov aa ba aa) (dl := ca) (by omega) (by omega) (by omega) (by omega)
  have yb := ov_rng (s := ov (min ab aa) (min bb ba) aa) (d := min cb ca) (al := ov aa ba aa) (dl := ca) (by omega) (by omega) (by omega) (by omega)
  have nr := near_ov (a := min ar aa) (b := min br ba) (c := min cr ca) (al := aa) (bl := ba) (by omega) (by omega) (by omega) (by omega) (by omega)
  have ng := near_ov (a := min ag aa) (b := min bg ba) (c := min cg ca) (al := aa) (bl := ba) (by omega) (by omega) (by omega) (by omega) (by omega)
  have nb := near_ov (a := min ab aa) (b := min bb ba) (c := min cb ca) (al := aa) (bl := ba) (by omega) (by omega) (by omega) (by omega) (by omega)
  have na := near_ov (a := aa) (b := ba) (c := ca) (al := aa) (bl := ba) (by omega) (by omega) (by omega) (by omega) (by omega)
  have ex : (aa = 255 ∨ ba = 255 ∨ aa = 0 ∨ ba = 0 ∨ ca = 0) →
      ov (min ar aa) (ov (min br ba) (min cr ca) ba) aa = ov (ov (min ar aa) (min br ba) aa) (min cr ca) (ov aa ba aa) ∧ ov (min ag aa) (ov (min bg ba) (min cg ca) ba) aa = ov (ov (min ag aa) (min bg ba) aa) (min cg ca) (ov aa ba aa) ∧
      ov (min ab aa) (ov (min bb ba) (min cb ca) ba) aa = ov (ov (min ab aa) (min bb ba) aa) (min cb ca) (ov aa ba aa) ∧ ov aa (ov ba ca ba) aa = ov (ov aa ba aa) ca (ov aa ba aa) := by
    rintro (h | h | h | h | h)
    · subst h; exact ⟨exact_a _ _ _ _, exact_a _ _ _ _, exact_a _ _ _ _, exact_a _ _ _ _⟩
    · subst h; exact ⟨exact_b _ _ _ _ haa, exact_b _ _ _ _ haa, exact_b _ _ _ _ haa, exact_b _ _ _ _ haa⟩
    · subst h; rw [show min ar 0 = 0 by omega, show min ag 0 = 0 by omega, show min ab 0 = 0 by omega]; exact ⟨exact_a0 _ _ _, exact_a0 _ _ _, exact_a0 _ _ _, exact_a0 _ _ _⟩
    · subst h; rw [show min br 0 = 0 by omega, show min bg 0 = 0 by omega, show min bb 0 = 0 by omega]; exact ⟨exact_b0 _ _ _, exact_b0 _ _ _, exact_b0 _ _ _, exact_b0 _ _ _⟩
    · subst h; rw [show min cr 0 = 0 by omega, show min cg 0 = 0 by omega, show min cb 0 = 0 by omega]; exact ⟨exact_c0 _ _ _ _, exact_c0 _ _ _ _, exact_c0 _ _ _ _, exact_c0 _ _ _ _⟩
  generalize ov (min ar aa) (ov (min br ba) (min cr ca) ba) aa = x0 at *
  generalize ov (min ag aa) (ov (min bg ba) (min cg ca) ba) aa = x1 at *
  generalize ov (min ab aa) (ov (min bb ba) (min cb ca) ba) aa = x2 at *
  generalize ov aa (ov ba ca ba) aa = x3 at *
  generalize ov (ov (min ar aa) (min br ba) aa) (min cr ca) (ov aa ba aa) = y0 at *
  generalize ov (ov (min ag aa) (min bg ba) aa) (min cg ca) (ov aa ba aa) = y1 at *
  generalize ov (ov (min ab aa) (min bb ba) aa) (min cb ca) (ov aa ba aa) = y2 at *
  generalize ov (ov aa ba aa) ca (ov aa ba aa) = y3 at *
  have rx : (0 ≤ x0 ∧ x0 ≤ 255) ∧ (0 ≤ x1 ∧ x1 ≤ 255) ∧ (0 ≤ x2 ∧ x2 ≤ 255) ∧ (0 ≤ x3 ∧ x3 ≤ 255) := by omega
  have ry : (0 ≤ y0 ∧ y0 ≤ 255) ∧ (0 ≤ y1 ∧ y1 ≤ 255) ∧ (0 ≤ y2 ∧ y2 ≤ 255) ∧ (0 ≤ y3 ∧ y3 ≤ 255) := by omega
  clear xr xg xb yr yg yb rbr rbg rbb rar rag rab
  obtain ⟨a0', ea0⟩ : ∃ z, z = min ar aa := ⟨_, rfl⟩
  obtain ⟨a1', ea1⟩ : ∃ z, z = min ag aa := ⟨_, rfl⟩
  obtain ⟨a2', ea2⟩ : ∃ z, z = min ab aa := ⟨_, rfl⟩
  obtain ⟨b0', eb0⟩ : ∃ z, z = min br ba := ⟨_, rfl⟩
  obtain ⟨b1', eb1⟩ : ∃ z, z = min bg ba := ⟨_, rfl⟩
  obtain ⟨b2', eb2⟩ : ∃ z, z = min bb ba := ⟨_, rfl⟩
  obtain ⟨c0', ec0⟩ : ∃ z, z = min cr ca := ⟨_, rfl⟩
  obtain ⟨c1', ec1⟩ : ∃ z, z = min cg ca := ⟨_, rfl⟩
  obtain ⟨c2', ec2⟩ : ∃ z, z = min cb ca := ⟨_, rfl⟩
  rw [← ea0, ← ea1, ← ea2] at B0
  rw [← eb0, ← eb1, ← eb2] at B1
  rw [← ec0, ← ec1, ← ec2] at B2
  have la : (0 ≤ a0' ∧ a0' ≤ aa) ∧ (0 ≤ a1' ∧ a1' ≤ aa) ∧ (0 ≤ a2' ∧ a2' ≤ aa) := by omega
  have lb : (0 ≤ b0' ∧ b0' ≤ ba) ∧ (0 ≤ b1' ∧ b1' ≤ ba) ∧ (0 ≤ b2' ∧ b2' ≤ ba) := by omega
  have lc : (0 ≤ c0' ∧ c0' ≤ ca) ∧ (0 ≤ c1' ∧ c1' ≤ ca) ∧ (0 ≤ c2' ∧ c2' ≤ ca) := by omega
  clear ea0 ea1 ea2 eb0 eb1 eb2 ec0 ec1 ec2
  obtain ⟨p0, p1, p2, p3⟩ := B0.cells
  obtain ⟨q0, q1, q2, q3⟩ := B1.cells
  obtain ⟨r0, r1, r2, r3⟩ := B2.cells
  obtain ⟨s0, s1, s2, s3⟩ := B7.cells
  obtain ⟨t0, t1, t2, t3⟩ := B8.cells
  have m0 := B0.lt; have m1 := B1.lt; have m2 := B2.lt; have m7 := B7.lt; have m8 := B8.lt
  go_upto_region 3 with fail
  go_cut [9] from 26 (fun s9 wx => ∃ g9 : Nat, s9 = .pointer (some ⟨g9, 0, none⟩) ∧ PxBox wx g9 0 0 0 0 ∧ Below wc.heap.size wc wx)
  case first =>
    go_wp2_with fail
    go_meet
    exact ⟨wc.heap.size, rfl, PxBox.new _ _ _ _ _, by (with_reducible repeat (first | assumption | exact Below.refl _ _ | refine Below.setCell ?_ (by first | omega | (simp; done) | (simp; omega)) _ | refine Below.drew ?_ | refine bdrewN ?_ _ | refine Below.alloc ?_ (by first | omega | (simp; done) | (simp; omega)) _))⟩
  case rest =>
  obtain ⟨g9, rfl, B9, hb⟩ := hcut
  replace B0 := B0.below hb; replace B1 := B1.below hb; replace B2 := B2.below hb; replace B7 := B7.below hb; replace B8 := B8.below hb
  replace hB := bon hB hB.size hb
  clear hb p0 p1 p2 p3 q0 q1 q2 q3 r0 r1 r2 r3 s0 s1 s2 s3 t0 t1 t2 t3 m0 m1 m2 m7 m8
  obtain ⟨p0, p1, p2, p3⟩ := B0.cells
  obtain ⟨q0, q1, q2, q3⟩ := B1.cells
  obtain ⟨r0, r1, r2, r3⟩ := B2.cells
  obtain ⟨s0, s1, s2, s3⟩ := B7.cells
  obtain ⟨t0, t1, t2, t3⟩ := B8.cells
  obtain ⟨z0, z1, z2, z3⟩ := B9.cells
  go_upto_region 4 with fail
  go_cut [54] from 27 (fun s54 wx => s54 = .bool false ∧ wc = wx)
  case first =>
    have hx := ex
    clear ex nr ng nb na rx ry
    by_cases e1 : aa = 255
    · obtain ⟨rfl, rfl, rfl, rfl⟩ := hx (.inl e1)
      subst e1
      go_wp2_with fail
      go_meet
      exact ⟨rfl, rfl⟩
    · by_cases e2 : ba = 255
      · obtain ⟨rfl, rfl, rfl, rfl⟩ := hx (.inr (.inl e2))
        subst e2
        go_wp2_with fail
        go_meet
        exact ⟨rfl, rfl⟩
      · by_cases e3 : aa = 0
        · obtain ⟨rfl, rfl, rfl, rfl⟩ := hx (.inr (.inr (.inl e3)))
          subst e3
          obtain rfl : a0' = 0 := by omega
          obtain rfl : a1' = 0 := by omega
          obtain rfl : a2' = 0 := by omega
          go_wp2_with fail
          go_meet
          exact ⟨rfl, rfl⟩
        · by_cases e4 : ba = 0
          · obtain ⟨rfl, rfl, rfl, rfl⟩ := hx (.inr (.inr (.inr (.inl e4))))
            subst e4
            obtain rfl : b0' = 0 := by omega
            obtain rfl : b1' = 0 := by omega
            obtain rfl : b2' = 0 := by omega
            go_wp2_with fail
            go_meet
            exact ⟨rfl, rfl⟩
          · by_cases e5 : ca = 0
            · obtain ⟨rfl, rfl, rfl, rfl⟩ := hx (.inr (.inr (.inr (.inr e5))))
              subst e5
              obtain rfl : c0' = 0 := by omega
              obtain rfl : c1' = 0 := by omega
              obtain rfl : c2' = 0 := by omega
              go_wp2_with fail
              go_meet
              exact ⟨rfl, rfl⟩
            · clear hx
              go_wp2_with fail
              go_meet
              exact ⟨rfl, rfl⟩
  case rest =>
  obtain ⟨rfl, rfl⟩ := hcut
  clear ex la lb lc
  go_wp2_with (first
    | (go_at_call 13; refine (near_any _ _ _ (by omega) (by omega) (by omega) (by omega)).mono ?_; rintro e w' ⟨rfl, rfl⟩)
    | (go_at_call 14; refine (ex08_any _).mono ?_; rintro e w1 ⟨rfl, hb1⟩; replace hB := bon hB hB.size hb1))
  go_ret
  exact ⟨rfl, hB⟩
end Go.Proofs.Ytijfldgkmbhdoaa
