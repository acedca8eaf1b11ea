/- A region whose order is open: reads, calls that make memory alone, and new variables ('alloc') ahead of a forced tail: one walk in the order of the text serves every order. -/
import Derived.Test.YtgikmcgoaihggaaTail
import Derived.Lib.QuietBelow
set_option linter.unusedVariables false
set_option linter.unusedSimpArgs false
namespace Go.Proofs.Ytgikmcgoaihggaa
open Go.RowKit Go.Sort

structure Fresh where
  idx : Nat
  dst : Tmp
  obj : Obj

/-- The world has but grown. -/
def Grows (w w' : World) : Prop := Below w.heap.size w w'
def calmUpon (P : Program) (w : World) (v : Value) : Result Next → Prop
  | .ok (.value u) w' => w' = w ∧ u = v
  | .ok .skip w' => w' = w ∧ v = undef
  | .ok (.enter f args) w' => w' = w ∧ Calls P f args w (fun e w'' => e = .returned v ∧ Grows w w'')
  | _ => False
def calmAt (P : Program) (o : Oper) (a : Act) (w : World) (v : Value) : Prop := calmUpon P w v ((execOp a.eval o).run P w)
/-- One value, in every world that has grown out of w0. -/
def calm (P : Program) (o : Oper) (a : Act) (w0 : World) (next : Act → Prop) : Prop := ∃ v, (∀ p : Regrown, calmAt P o a (grow (redrawn w0 p.d) p.os) v) ∧ next (a.put o.dst v)

/-- The walk in the order of the text; what is marked is passed over. -/
def wpCalm (P : Program) (ops : Array Oper) (w0 : World) (Q : Act → Prop) : List (Bool × Oper) → Act → Prop
  | [], a => Q a
  | (true, _) :: rest, a => wpCalm P ops w0 Q rest a
  | (false, o) :: rest, a => if Region.wanted o (yielded ops a.tmps) then calm P o a w0 (wpCalm P ops w0 Q rest) else wpCalm P ops w0 Q rest (a.put o.dst undef)

section
variable {P : Program} {ops : Array Oper} {md : Region.Mode} {w0 : World} {fr : Nat → Bool}

theorem wpCalm_nil {Q : Act → Prop} {a : Act} (h : Q a) : wpCalm P ops w0 Q [] a := h
theorem wpCalm_pass {Q : Act → Prop} {a : Act} {o : Oper} {rest : List (Bool × Oper)} (h : wpCalm P ops w0 Q rest a) : wpCalm P ops w0 Q ((true, o) :: rest) a := h
theorem wpCalm_step {Q : Act → Prop} {a : Act} {o : Oper} {rest : List (Bool × Oper)}
    (h : ∀ K : Act → Prop, (∀ a, wpCalm P ops w0 Q rest a → K a) → if Region.wanted o (yielded ops a.tmps) then calm P o a w0 K else K (a.put o.dst undef)) : wpCalm P ops w0 Q ((false, o) :: rest) a :=
  h _ (fun _ h => h)

def cOp (P : Program) (ops : Array Oper) (w0 : World) (fr : Nat → Bool) (i : Nat) (K : Act → Prop) (a : Act) : Prop :=
  match ops[i]? with
  | none => K a
  | some o => if fr i = true then K a else if Region.wanted o (yielded ops a.tmps) = true then calm P o a w0 K else K (a.put o.dst undef)

theorem calm_mono {o : Oper} {a : Act} {K K' : Act → Prop} (h : ∀ a, K a → K' a) (hh : calm P o a w0 K) : calm P o a w0 K' :=
  let ⟨v, h1, h2⟩ := hh
  ⟨v, h1, h _ h2⟩

theorem cOp_mono {i : Nat} {a : Act} {K K' : Act → Prop} (h : ∀ a, K a → K' a) (hh : cOp P ops w0 fr i K a) : cOp P ops w0 fr i K' a := by
  unfold cOp at *
  cases ho : ops[i]? with
  | none => rw [ho] at hh; exact h _ hh
  | some o =>
    rw [ho] at hh
    dsimp only at hh ⊢
    by_cases hf : fr i = true
    · rw [if_pos hf] at hh ⊢; exact h _ hh
    · rw [if_neg hf] at hh ⊢
      by_cases hw : Region.wanted o (yielded ops a.tmps) = true
      · rw [if_pos hw] at hh ⊢; exact calm_mono h hh
      · rw [if_neg hw] at hh ⊢; exact h _ hh

def YieldsC (P : Program) (ops : Array Oper) (w0 : World) (o : Oper) (v : Value) (a : Act) : Prop :=
  (Region.wanted o (yielded ops a.tmps) = true ∧ ∀ p : Regrown, calmAt P o a (grow (redrawn w0 p.d) p.os) v) ∨
  (Region.wanted o (yielded ops a.tmps) = false ∧ v = undef)

theorem YieldsC.cOp {i : Nat} {o : Oper} {v : Value} {a : Act} (hi : ops[i]? = some o) (hf : fr i = false) (hy : YieldsC P ops w0 o v a) {K : Act → Prop} (h : K (a.put o.dst v)) : cOp P ops w0 fr i K a := by
  unfold Go.Proofs.Ytgikmcgoaihggaa.cOp
  rw [hi]
  dsimp only
  rw [if_neg (by rw [hf]; decide)]
  rcases hy with ⟨hw, hv⟩ | ⟨hw, rfl⟩
  · rw [if_pos hw]; exact ⟨v, hv, h⟩
  · rw [if_neg (by rw [hw]; decide)]; exact h

theorem YieldsC.of_same {o : Oper} {v : Value} {a a' : Act} (hy : YieldsC P ops w0 o v a) (he : execOp a'.eval o = execOp a.eval o)
    (hw : Region.wanted o (yielded ops a'.tmps) = Region.wanted o (yielded ops a.tmps)) : YieldsC P ops w0 o v a' := by
  unfold YieldsC calmAt at *
  rw [he, hw]
  exact hy

theorem yieldsC_of_cOp {i : Nat} {o : Oper} {a : Act} {K : Act → Prop} (hi : ops[i]? = some o) (hf : fr i = false) (h : cOp P ops w0 fr i K a) : ∃ v, YieldsC P ops w0 o v a ∧ K (a.put o.dst v) := by
  unfold cOp at h
  rw [hi] at h
  dsimp only at h
  rw [if_neg (by rw [hf]; decide)] at h
  by_cases hw : Region.wanted o (yielded ops a.tmps) = true
  · rw [if_pos hw] at h
    obtain ⟨v, h1, h2⟩ := h
    exact ⟨v, .inl ⟨hw, h1⟩, h2⟩
  · rw [if_neg hw] at h
    exact ⟨undef, .inr ⟨by simpa using hw, rfl⟩, h⟩

theorem cOp_put {j : Nat} {oi oj : Oper} {v : Value} (hj : ops[j]? = some oj) (hap : oi.apart ops oj = true)
    (hsi : ∀ cs b, oi.op ≠ .select cs b) (hsj : ∀ cs b, oj.op ≠ .select cs b) {K : Act → Prop} {a : Act}
    (hy : YieldsC P ops w0 oi v a) (h : cOp P ops w0 fr j K (a.put oi.dst v)) :
    cOp P ops w0 fr j (fun a' => YieldsC P ops w0 oi v a' ∧ K (a'.put oi.dst v)) a := by
  obtain ⟨h1, h2, h3⟩ := Oper.apart_spec hap
  have keep : ∀ (a : Act), YieldsC P ops w0 oi v a → ∀ u, YieldsC P ops w0 oi v (a.put oj.dst u) := fun a hy u =>
    hy.of_same (execOp_put oi hsi a oj.dst u h3) (wanted_put oi a oj.dst u h3)
  unfold cOp at *
  rw [hj] at h ⊢
  dsimp only at h ⊢
  by_cases hf : fr j = true
  · rw [if_pos hf] at h ⊢; exact ⟨hy, h⟩
  · rw [if_neg hf] at h ⊢
    rw [wanted_put oj a oi.dst v h1] at h
    by_cases hw : Region.wanted oj (yielded ops a.tmps) = true
    · rw [if_pos hw] at h ⊢
      obtain ⟨u, hu, hn⟩ := h
      refine ⟨u, fun p => ?_, keep a hy u, by rw [← Act.put_comm a v u h2]; exact hn⟩
      have := hu p
      unfold calmAt at *
      rwa [execOp_put oj hsj a oi.dst v h1] at this
    · rw [if_neg hw] at h ⊢
      exact ⟨keep a hy _, by rw [← Act.put_comm a v undef h2]; exact h⟩

def wpHeadC (P : Program) (md : Region.Mode) (ops : Array Oper) (w0 : World) (fr : Nat → Bool) (n : Nat) (L : Array Bool → Act → Prop) : Nat → Array Bool → Act → Prop
  | 0, listed, a => L listed a
  | f + 1, listed, a =>
    Region.ready md ops listed ≠ [] ∧ ∀ i ∈ Region.ready md ops listed, i < n ∧ cOp P ops w0 fr i (wpHeadC P md ops w0 fr n L f (listed.setIfInBounds i true)) a

/-- One that is passed over may be passed over first. -/
theorem wpHeadC_pass {n i : Nat} {oi : Oper} {L : Array Bool → Act → Prop} (hi : ops[i]? = some oi) (hfi : fr i = true)
    (hs : Region.sinkB md ops n = true) (hc : Region.chainB md ops n = true) (hn : n < ops.size) (hin : i < n)
    (hdone : ∀ listed a, L listed a → ∀ j ∈ Region.ready md ops listed, n ≤ j) :
    ∀ (f : Nat) (listed : Array Bool) (a : Act), HeadInv md ops n listed → i ∈ Region.ready md ops listed →
      wpHeadC P md ops w0 fr n L f (listed.setIfInBounds i true) a → wpHeadC P md ops w0 fr n L (f + 1) listed a := by
  have self : ∀ (K : Act → Prop) a, K a → cOp P ops w0 fr i K a := fun K a h => by
    unfold cOp; rw [hi]; dsimp only; rw [if_pos hfi]; exact h
  intro f
  induction f with
  | zero =>
    intro listed a inv hr H
    have hun := (mem_ready.1 hr).1
    refine ⟨fun h => (by rw [h] at hr; cases hr), fun j hj => ?_⟩
    have hjn : j < n := by
      rcases Nat.lt_or_ge j n with h | h
      · exact h
      · exact absurd hj (tail_waits hs hc hn inv _ i rfl hin hun j h)
    refine ⟨hjn, ?_⟩
    by_cases hji : j = i
    · subst hji; exact self _ _ H
    · have := hdone _ _ H j (ready_mono hj hji)
      omega
  | succ f ih =>
    intro listed a inv hr H
    have hun := (mem_ready.1 hr).1
    refine ⟨fun h => (by rw [h] at hr; cases hr), fun j hj => ?_⟩
    have hjn : j < n := by
      rcases Nat.lt_or_ge j n with h | h
      · exact h
      · exact absurd hj (tail_waits hs hc hn inv _ i rfl hin hun j h)
    refine ⟨hjn, ?_⟩
    by_cases hji : j = i
    · subst hji; exact self _ _ H
    · refine cOp_mono (fun a' h3 => ih (listed.setIfInBounds j true) a' (inv.set hj hjn) (ready_mono hr (Ne.symm hji)) ?_) (H.2 j (ready_mono hj hji)).2
      rw [Array.setIfInBounds_comm _ _ hji]
      exact h3

theorem wpHeadC_first {n i : Nat} {oi : Oper} {v : Value} {L : Array Bool → Act → Prop} (hi : ops[i]? = some oi) (hfi : fr i = false) (hsel : ∀ (j : Nat) (o : Oper) cs b, ops[j]? = some o → o.op ≠ .select cs b)
    (hs : Region.sinkB md ops n = true) (hc : Region.chainB md ops n = true) (hn : n < ops.size) (hin : i < n)
    (hdone : ∀ listed a, L listed a → ∀ j ∈ Region.ready md ops listed, n ≤ j) :
    ∀ (f : Nat) (listed : Array Bool) (a : Act), HeadInv md ops n listed →
      (∀ j oj, ops[j]? = some oj → j ≠ i → listed.getD j true = false → (∀ e ∈ oj.after, Region.binds md e = true → e.on ≠ i) → oi.apart ops oj = true) →
      i ∈ Region.ready md ops listed → YieldsC P ops w0 oi v a →
      wpHeadC P md ops w0 fr n L f (listed.setIfInBounds i true) (a.put oi.dst v) → wpHeadC P md ops w0 fr n L (f + 1) listed a := by
  intro f
  induction f with
  | zero =>
    intro listed a inv _ hr hy H
    have hun := (mem_ready.1 hr).1
    refine ⟨fun h => (by rw [h] at hr; cases hr), fun j hj => ?_⟩
    have hjn : j < n := by
      rcases Nat.lt_or_ge j n with h | h
      · exact h
      · exact absurd hj (tail_waits hs hc hn inv _ i rfl hin hun j h)
    refine ⟨hjn, ?_⟩
    by_cases hji : j = i
    · subst hji; exact hy.cOp hi hfi H
    · have := hdone _ _ H j (ready_mono hj hji)
      omega
  | succ f ih =>
    intro listed a inv hfree hr hy H
    have hun := (mem_ready.1 hr).1
    refine ⟨fun h => (by rw [h] at hr; cases hr), fun j hj => ?_⟩
    have hjn : j < n := by
      rcases Nat.lt_or_ge j n with h | h
      · exact h
      · exact absurd hj (tail_waits hs hc hn inv _ i rfl hin hun j h)
    refine ⟨hjn, ?_⟩
    by_cases hji : j = i
    · subst hji; exact hy.cOp hi hfi H
    · have h1 := (H.2 j (ready_mono hj hji)).2
      obtain ⟨hjun, oj, hoj, hall⟩ := mem_ready.1 hj
      have hnot : ∀ e ∈ oj.after, Region.binds md e = true → e.on ≠ i := fun e he hb heq => by
        have h1 := hall e he hb
        rw [heq, getD_both hun] at h1
        cases h1
      have h2 := cOp_put hoj (hfree j oj hoj hji hjun hnot) (fun cs b => hsel i oi cs b hi) (fun cs b => hsel j oj cs b hoj) hy h1
      have hfree' : ∀ k ok, ops[k]? = some ok → k ≠ i → (listed.setIfInBounds j true).getD k true = false →
          (∀ e ∈ ok.after, Region.binds md e = true → e.on ≠ i) → oi.apart ops ok = true := fun k ok hk hki hun hno => by
        refine hfree k ok hk hki ?_ hno
        by_cases hjk : j = k
        · subst hjk; exact hjun
        · rw [getD_set_ne true hjk] at hun; exact hun
      refine cOp_mono (fun a' h3 => ih (listed.setIfInBounds j true) a' (inv.set hj hjn) hfree' (ready_mono hr (Ne.symm hji)) h3.1 ?_) h2
      rw [Array.setIfInBounds_comm _ _ hji]
      exact h3.2

theorem wpHeadC_lex {n g : Nat} {Lq : Act → Prop} (hsel : Region.noSelect ops = true) (hs : Region.sinkB md ops n = true) (hc : Region.chainB md ops n = true) (hn : n < ops.size) :
    ∀ (l : List (Bool × Oper)) (k : Nat) (listed : Array Bool) (a : Act), (∀ j, j < l.length → (l[j]?).map (·.2) = ops[k + j]?) → (∀ j, j < l.length → (l[j]?).map (·.1) = some (fr (k + j))) → k + l.length = n → HeadInv md ops n listed →
    Region.lexHead md ops g l.length k listed = true → wpCalm P ops w0 Lq l a →
    wpHeadC P md ops w0 fr n (fun listed' a' => Region.seqB md ops g n listed' = true ∧ Lq a') l.length listed a
  | [], k, listed, a, _, _, hk, _, hB, h => by
    have : k = n := by simpa using hk
    subst this
    exact ⟨by simpa [Region.lexHead] using hB, h⟩
  | (b, o) :: l, k, listed, a, hl, hb, hk, inv, hB, h => by
    have h0 : ops[k]? = some o := by simpa using (hl 0 (by simp)).symm
    have hb0 : fr k = b := by simpa using (hb 0 (by simp)).symm
    simp only [List.length_cons, Region.lexHead, Bool.and_eq_true] at hB
    obtain ⟨⟨hr, hf⟩, hB'⟩ := hB
    have hkn : k < n := by simp only [List.length_cons] at hk; omega
    have hr' : k ∈ Region.ready md ops listed := by simpa using hr
    have next : ∀ a', wpCalm P ops w0 Lq l a' → wpHeadC P md ops w0 fr n (fun listed' a' => Region.seqB md ops g n listed' = true ∧ Lq a') l.length (listed.setIfInBounds k true) a' := fun a' h' =>
      wpHeadC_lex hsel hs hc hn l (k + 1) _ _ (fun j hj => by have := hl (j + 1) (by simp; omega); simpa [Nat.add_assoc, Nat.add_comm 1 j] using this)
        (fun j hj => by have := hb (j + 1) (by simp; omega); simpa [Nat.add_assoc, Nat.add_comm 1 j] using this) (by simp only [List.length_cons] at hk; omega) (inv.set hr' hkn) hB' h'
    cases b with
    | true => exact wpHeadC_pass h0 hb0 hs hc hn hkn (fun listed' a' hL => seqB_ready hL.1) l.length listed a inv hr' (next a h)
    | false =>
      have hst : cOp P ops w0 fr k (wpCalm P ops w0 Lq l) a := by
        unfold cOp; rw [h0]; dsimp only; rw [if_neg (by rw [hb0]; decide)]; exact h
      obtain ⟨v, hy, hK⟩ := yieldsC_of_cOp h0 hb0 hst
      exact wpHeadC_first h0 hb0 (Region.noSelect_spec hsel) hs hc hn hkn (fun listed' a' hL => seqB_ready hL.1) l.length listed a inv (Region.free_spec h0 hf) hr' hy (next _ hK)

/-! ### The run: what was passed over has put its new block's address into its slot. -/
def putL : List (Tmp × Nat) → Act → Act
  | [], a => a
  | (d, b) :: F, a => (putL F a).put (some d) (.pointer (some ⟨b, 0, none⟩))

theorem exec_putL {o : Oper} (hs : ∀ cs b, o.op ≠ .select cs b) (a : Act) : ∀ F : List (Tmp × Nat), (∀ p ∈ F, p.1 ∉ o.looksAt ops) → execOp (putL F a).eval o = execOp a.eval o
  | [], _ => rfl
  | (d, b) :: F, h => by
    unfold putL
    rw [execOp_put (ops := ops) o hs _ _ _ (fun e he => by injection he with he; subst he; exact h (d, b) (by simp)), exec_putL hs a F (fun p hp => h p (by simp [hp]))]
theorem wanted_putL (o : Oper) (a : Act) : ∀ F : List (Tmp × Nat), (∀ p ∈ F, p.1 ∉ o.looksAt ops) → Region.wanted o (yielded ops (putL F a).tmps) = Region.wanted o (yielded ops a.tmps)
  | [], _ => rfl
  | (d, b) :: F, h => by
    unfold putL
    rw [wanted_put o _ _ _ (fun e he => by injection he with he; subst he; exact h (d, b) (by simp)), wanted_putL o a F (fun p hp => h p (by simp [hp]))]
theorem put_putL (dst : Option Tmp) (v : Value) (a : Act) : ∀ F : List (Tmp × Nat), (∀ p ∈ F, dst ≠ some p.1) → (putL F a).put dst v = putL F (a.put dst v)
  | [], _ => rfl
  | (d, b) :: F, h => by
    unfold putL
    rw [Act.put_comm _ _ _ (fun e he => by injection he with he; subst he; exact h (d, b) (by simp)), put_putL dst v a F (fun p hp => h p (by simp [hp]))]

structure Placed (ops : Array Oper) (w0 : World) (fs : List Fresh) (listed : Array Bool) (F : List (Tmp × Nat)) (w : World) : Prop where
  below : Below w0.heap.size w0 w
  blocks : (F.map (·.2)).Nodup
  slots : (F.map (·.1)).Nodup
  there : ∀ x ∈ fs, listed.getD x.idx false = true → ∃ b, (x.dst, b) ∈ F ∧ w0.heap.size ≤ b ∧ w.heap[b]? = some x.obj
  from_ : ∀ p ∈ F, p.2 < w.heap.size ∧ ∃ x ∈ fs, x.dst = p.1 ∧ listed.getD x.idx false = true

theorem Placed.grows {fs : List Fresh} {listed : Array Bool} {F : List (Tmp × Nat)} {w w' : World} (h : Placed ops w0 fs listed F w) (hb : Below w.heap.size w w') : Placed ops w0 fs listed F w' :=
  ⟨bon h.below h.below.size hb, h.blocks, h.slots, fun x hx hl => by
      obtain ⟨b, h1, h2, h3⟩ := h.there x hx hl
      refine ⟨b, h1, h2, ?_⟩
      rw [hb.block b ((h.from_ _ h1).1)]; exact h3,
    fun p hp => ⟨Nat.lt_of_lt_of_le (h.from_ p hp).1 hb.size, (h.from_ p hp).2⟩⟩

/-- What is known of the regions' new variables. -/
structure FreshOk (P : Program) (ops : Array Oper) (n : Nat) (fs : List Fresh) : Prop where
  run : ∀ x ∈ fs, ∃ o, ops[x.idx]? = some o ∧ o.dst = some x.dst ∧ o.guard = none ∧ ∀ (a : Act) (w : World), (execOp a.eval o).run P w = .ok (.value (.pointer (some ⟨w.heap.size, 0, none⟩))) (w.alloc x.obj)
  lt : ∀ x ∈ fs, x.idx < n
  idx : ∀ x ∈ fs, ∀ y ∈ fs, x.idx = y.idx → x = y
  dst : ∀ x ∈ fs, ∀ y ∈ fs, x.dst = y.dst → x = y
  apart : ∀ x ∈ fs, ∀ j o, j < n → ops[j]? = some o → j ≠ x.idx → x.dst ∉ o.looksAt ops ∧ o.dst ≠ some x.dst

theorem getD_set_cases {listed : Array Bool} {i j : Nat} (h : (listed.setIfInBounds i true).getD j false = true) : j = i ∨ listed.getD j false = true := by
  by_cases hij : i = j
  · exact .inl hij.symm
  · rw [getD_set_ne false hij] at h; exact .inr h

theorem wpAny_of_headC {n g : Nat} {fs : List Fresh} {L : Array Bool → Act → Prop} {Q' : Exit → Act → World → Prop} (hok : FreshOk P ops n fs) (hfr : ∀ i, fr i = fs.any (·.idx == i)) (hsel : ∀ (j : Nat) (o : Oper) cs b, ops[j]? = some o → o.op ≠ .select cs b)
    (hL : ∀ listed a F w, HeadInv md ops n listed → Placed ops w0 fs listed F w → L listed a → wpAny P md ops Q' g listed (putL F a) w) :
    ∀ (f : Nat) (listed : Array Bool) (a : Act) (F : List (Tmp × Nat)) (w : World), HeadInv md ops n listed → Placed ops w0 fs listed F w → wpHeadC P md ops w0 fr n L f listed a → wpAny P md ops Q' (f + g) listed (putL F a) w
  | 0, listed, a, F, w, inv, hp, h => by rw [Nat.zero_add]; exact hL _ _ _ _ inv hp h
  | f + 1, listed, a, F, w, inv, hp, h => by
    rw [show f + 1 + g = (f + g) + 1 by omega]
    refine ⟨fun h0 => absurd h0 h.1, fun i hi => ?_⟩
    obtain ⟨hin, hc⟩ := h.2 i hi
    obtain ⟨hun, o, ho, hall⟩ := mem_ready.1 hi
    unfold wpOp
    rw [ho]
    dsimp only
    by_cases hf : fr i = true
    · -- a new variable
      have hc' : wpHeadC P md ops w0 fr n L f (listed.setIfInBounds i true) a := by
        unfold cOp at hc; rw [ho] at hc; dsimp only at hc; rw [if_pos hf] at hc; exact hc
      rw [hfr] at hf
      obtain ⟨x, hx, hxi⟩ := List.any_eq_true.1 hf
      have hxi : x.idx = i := by simpa using hxi
      obtain ⟨o', ho', hd, hg, hrun⟩ := hok.run x hx
      rw [hxi, ho] at ho'
      injection ho' with ho'
      subst ho'
      have hw : Region.wanted o (yielded ops (putL F a).tmps) = true := by simp [Region.wanted, hg]
      rw [if_pos hw]
      left
      unfold Oper.wp
      rw [hrun]
      show wpAny P md ops Q' (f + g) (listed.setIfInBounds i true) ((putL F a).put o.dst _) (w.alloc x.obj)
      rw [hd]
      have hsz : (w.alloc x.obj).heap.size = w.heap.size + 1 := by simp
      refine wpAny_of_headC hok hfr hsel hL f _ a ((x.dst, w.heap.size) :: F) (w.alloc x.obj) (inv.set hi hin) ⟨hp.below.alloc hp.below.size _, ?_, ?_, ?_, ?_⟩ hc'
      · simp only [List.map_cons, List.nodup_cons]
        refine ⟨fun hm => ?_, hp.blocks⟩
        obtain ⟨p, hpF, hpe⟩ := List.mem_map.1 hm
        have := (hp.from_ p hpF).1
        omega
      · simp only [List.map_cons, List.nodup_cons]
        refine ⟨fun hm => ?_, hp.slots⟩
        obtain ⟨p, hpF, hpe⟩ := List.mem_map.1 hm
        obtain ⟨_, y, hy, hyd, hyl⟩ := hp.from_ p hpF
        have hyx : y = x := hok.dst y hy x hx (hyd.trans hpe)
        subst hyx
        rw [hxi, getD_both hun] at hyl
        cases hyl
      · intro y hy hyl
        rcases getD_set_cases hyl with hyi | hyl'
        · have hyx : y = x := hok.idx y hy x hx (by rw [hyi, hxi])
          subst hyx
          exact ⟨w.heap.size, by simp, hp.below.size, heap_alloc_new w _⟩
        · obtain ⟨b, h1, h2, h3⟩ := hp.there y hy hyl'
          refine ⟨b, by simp [h1], h2, ?_⟩
          rw [Below.heap_alloc w x.obj b (hp.from_ _ h1).1]; exact h3
      · intro p hpF
        rcases List.mem_cons.1 hpF with rfl | hpF
        · refine ⟨by rw [hsz]; simp, x, hx, rfl, ?_⟩
          rw [hxi]
          have hlt : i < listed.size := by
            rcases Nat.lt_or_ge i listed.size with h' | h'
            · exact h'
            · simp [Array.getElem?_eq_none h'] at hun
          simp [hlt]
        · obtain ⟨h1, y, hy, hyd, hyl⟩ := hp.from_ p hpF
          exact ⟨by rw [hsz]; omega, y, hy, hyd, getD_set_true hyl⟩
    · -- a read, a call
      have hfF : ∀ p ∈ F, p.1 ∉ o.looksAt ops ∧ o.dst ≠ some p.1 := fun p hpF => by
        obtain ⟨_, y, hy, hyd, _⟩ := hp.from_ p hpF
        have hne : i ≠ y.idx := fun e => hf (by rw [hfr]; exact List.any_eq_true.2 ⟨y, hy, by simp [e]⟩)
        have := hok.apart y hy i o hin ho hne
        rw [hyd] at this
        exact this
      have hsi : ∀ cs b, o.op ≠ .select cs b := fun cs b => hsel i o cs b ho
      have hf' : fr i = false := by simpa using hf
      obtain ⟨v, hy, hK⟩ := yieldsC_of_cOp ho hf' hc
      rw [wanted_putL o a F (fun p hpF => (hfF p hpF).1)]
      rcases hy with ⟨hw, hv⟩ | ⟨hw, rfl⟩
      · rw [if_pos hw]
        left
        unfold Oper.wp
        rw [exec_putL (ops := ops) hsi a F (fun p hpF => (hfF p hpF).1)]
        obtain ⟨q, hq⟩ := regrown_of_below hp.below
        have h3 := hv q
        rw [← hq] at h3
        unfold calmAt at h3
        have done : ∀ w', Placed ops w0 fs listed F w' → wpAny P md ops Q' (f + g) (listed.setIfInBounds i true) ((putL F a).put o.dst v) w' := fun w' hp' => by
          rw [put_putL o.dst v a F (fun p hpF => (hfF p hpF).2)]
          refine wpAny_of_headC hok hfr hsel hL f _ (a.put o.dst v) F w' (inv.set hi hin) ⟨hp'.below, hp'.blocks, hp'.slots, fun y hy hyl => ?_, fun p hpF => ?_⟩ hK
          · rcases getD_set_cases hyl with hyi | hyl'
            · exact absurd (show fr i = true from by rw [hfr]; exact List.any_eq_true.2 ⟨y, hy, by simp [hyi]⟩) hf
            · exact hp'.there y hy hyl'
          · obtain ⟨h1, y, hy, hyd, hyl⟩ := hp'.from_ p hpF
            exact ⟨h1, y, hy, hyd, getD_set_true hyl⟩
        generalize (execOp a.eval o).run P w = r at *
        cases r with
        | ok nx w' =>
          cases nx <;> simp only [calmUpon] at h3 <;> simp only [Oper.upon]
          case value u =>
            obtain ⟨e1, e2⟩ := h3
            rw [e1, e2]
            exact done w hp
          case skip =>
            obtain ⟨e1, e2⟩ := h3
            rw [e1, ← e2]
            exact done w hp
          case enter f' args =>
            obtain ⟨e1, hcall⟩ := h3
            rw [e1]
            exact hcall.mono fun e w'' ⟨he, hw''⟩ => by subst he; exact done w'' (hp.grows hw'')
        | halt x w' => simp only [calmUpon] at h3
      · rw [if_neg (by rw [hw]; decide)]
        rw [put_putL o.dst undef a F (fun p hpF => (hfF p hpF).2)]
        refine wpAny_of_headC hok hfr hsel hL f _ (a.put o.dst undef) F w (inv.set hi hin) ⟨hp.below, hp.blocks, hp.slots, fun y hy hyl => ?_, fun p hpF => ?_⟩ hK
        · rcases getD_set_cases hyl with hyi | hyl'
          · exact absurd (show fr i = true from by rw [hfr]; exact List.any_eq_true.2 ⟨y, hy, by simp [hyi]⟩) hf
          · exact hp.there y hy hyl'
        · obtain ⟨h1, y, hy, hyd, hyl⟩ := hp.from_ p hpF
          exact ⟨h1, y, hy, hyd, getD_set_true hyl⟩

/-- All that is asked of the new variables but their run: by the kernel. -/
def freshB (ops : Array Oper) (n : Nat) (fs : List Fresh) : Bool :=
  fs.all (fun x => decide (x.idx < n) && ((ops[x.idx]?).any fun o => o.dst == some x.dst && o.guard.isNone) && (List.range n).all fun j => j == x.idx || (ops[j]?).all fun o => !(o.looksAt ops).contains x.dst && o.dst != some x.dst)
def pairB : List Fresh → Bool
  | [] => true
  | x :: l => l.all (fun y => x.idx != y.idx && x.dst != y.dst) && pairB l

theorem pairB_spec : ∀ {fs : List Fresh}, pairB fs = true → (∀ x ∈ fs, ∀ y ∈ fs, x.idx = y.idx → x = y) ∧ (∀ x ∈ fs, ∀ y ∈ fs, x.dst = y.dst → x = y)
  | [], _ => ⟨fun x hx => (by cases hx), fun x hx => (by cases hx)⟩
  | z :: l, h => by
    simp only [pairB, Bool.and_eq_true, List.all_eq_true, bne_iff_ne, ne_eq] at h
    obtain ⟨h1, h2⟩ := h
    obtain ⟨i1, i2⟩ := pairB_spec h2
    constructor
    · intro x hx y hy e
      rcases List.mem_cons.1 hx with hx1 | hx1 <;> rcases List.mem_cons.1 hy with hy1 | hy1
      · rw [hx1, hy1]
      · subst hx1; exact absurd e (h1 y hy1).1
      · subst hy1; exact absurd e.symm (h1 x hx1).1
      · exact i1 x hx1 y hy1 e
    · intro x hx y hy e
      rcases List.mem_cons.1 hx with hx1 | hx1 <;> rcases List.mem_cons.1 hy with hy1 | hy1
      · rw [hx1, hy1]
      · subst hx1; exact absurd e (h1 y hy1).2
      · subst hy1; exact absurd e.symm (h1 x hx1).2
      · exact i2 x hx1 y hy1 e

theorem freshOk_of {n : Nat} {fs : List Fresh} (hB : freshB ops n fs = true) (hp : pairB fs = true)
    (hrun : ∀ x ∈ fs, ∀ o, ops[x.idx]? = some o → ∀ (a : Act) (w : World), (execOp a.eval o).run P w = .ok (.value (.pointer (some ⟨w.heap.size, 0, none⟩))) (w.alloc x.obj)) : FreshOk P ops n fs := by
  obtain ⟨i1, i2⟩ := pairB_spec hp
  simp only [freshB, List.all_eq_true, Bool.and_eq_true] at hB
  refine ⟨fun x hx => ?_, fun x hx => by simpa using (hB x hx).1.1, i1, i2, fun x hx j o hj ho hne => ?_⟩
  · obtain ⟨⟨_, h1⟩, _⟩ := hB x hx
    rw [Option.any_eq_true] at h1
    obtain ⟨o, ho, h2⟩ := h1
    simp only [Bool.and_eq_true, beq_iff_eq, Option.isNone_iff_eq_none] at h2
    exact ⟨o, ho, h2.1, h2.2, hrun x hx o ho⟩
  · obtain ⟨_, h1⟩ := hB x hx
    have h2 := h1 j (List.mem_range.2 hj)
    simp only [ho, Option.all_some, Bool.or_eq_true, beq_iff_eq, Bool.and_eq_true, bne_iff_ne, ne_eq, Bool.not_eq_true', List.contains_eq_mem, decide_eq_false_iff_not] at h2
    rcases h2 with h2 | h2
    · exact absurd h2 hne
    · exact ⟨h2.1, h2.2⟩

/-- Where the new variables have come to lie. -/
structure PlacedAll (w0 : World) (fs : List Fresh) (F : List (Tmp × Nat)) (w : World) : Prop where
  below : Below w0.heap.size w0 w
  blocks : (F.map (·.2)).Nodup
  slots : (F.map (·.1)).Nodup
  there : ∀ x ∈ fs, ∃ b, (x.dst, b) ∈ F ∧ w0.heap.size ≤ b ∧ w.heap[b]? = some x.obj
  from_ : ∀ p ∈ F, ∃ x ∈ fs, x.dst = p.1

theorem PlacedAll.nil {F : List (Tmp × Nat)} {w : World} (h : PlacedAll w0 [] F w) : F = [] := by
  cases F with
  | nil => rfl
  | cons p F => obtain ⟨x, hx, _⟩ := h.from_ p (by simp); cases hx

theorem PlacedAll.one {x : Fresh} {F : List (Tmp × Nat)} {w : World} (h : PlacedAll w0 [x] F w) : ∃ b, F = [(x.dst, b)] ∧ w0.heap.size ≤ b ∧ w.heap[b]? = some x.obj := by
  obtain ⟨b, hb, h1, h2⟩ := h.there x (by simp)
  refine ⟨b, ?_, h1, h2⟩
  have all : ∀ p ∈ F, p.1 = x.dst := fun p hp => by
    obtain ⟨y, hy, hyd⟩ := h.from_ p hp
    have : y = x := by simpa using hy
    rw [← hyd, this]
  match F, hb, h.slots, all with
  | [p], hb, _, _ => have : (x.dst, b) = p := by simpa using hb
                     rw [this]
  | p :: q :: F, _, hs, all =>
    exfalso
    simp only [List.map_cons, List.nodup_cons, List.mem_cons, not_or] at hs
    exact hs.1.1 ((all p (by simp)).trans (all q (by simp)).symm)

theorem PlacedAll.two {x y : Fresh} {F : List (Tmp × Nat)} {w : World} (h : PlacedAll w0 [x, y] F w) (hne : x.dst ≠ y.dst) :
    ∃ b c, (∀ a, putL F a = (a.put (some x.dst) (.pointer (some ⟨b, 0, none⟩))).put (some y.dst) (.pointer (some ⟨c, 0, none⟩))) ∧ b ≠ c ∧ w0.heap.size ≤ b ∧ w0.heap.size ≤ c ∧ w.heap[b]? = some x.obj ∧ w.heap[c]? = some y.obj := by
  obtain ⟨b, hb, h1, h2⟩ := h.there x (by simp)
  obtain ⟨c, hc, h3, h4⟩ := h.there y (by simp)
  have all : ∀ p ∈ F, p.1 = x.dst ∨ p.1 = y.dst := fun p hp => by
    obtain ⟨z, hz, hzd⟩ := h.from_ p hp
    simp only [List.mem_cons, List.not_mem_nil, or_false] at hz
    rcases hz with rfl | rfl
    · exact .inl hzd.symm
    · exact .inr hzd.symm
  match F, hb, hc, h.slots, h.blocks, all with
  | [], hb, _, _, _, _ => cases hb
  | [p], hb, hc, _, _, _ =>
    have e1 : (x.dst, b) = p := by simpa using hb
    have e2 : (y.dst, c) = p := by simpa using hc
    exact absurd (congrArg Prod.fst (e1.trans e2.symm)) hne
  | [p, q], hb, hc, hs, hk, _ =>
    simp only [List.mem_cons, List.not_mem_nil, or_false] at hb hc
    simp only [List.map_cons, List.map_nil, List.nodup_cons, List.mem_cons, List.not_mem_nil, or_false] at hk
    rcases hb with rfl | rfl <;> rcases hc with e | e
    · exact absurd (congrArg Prod.fst e).symm hne
    · subst e
      refine ⟨b, c, fun a => ?_, hk.1, h1, h3, h2, h4⟩
      show ((a.put (some y.dst) _).put (some x.dst) _) = _
      rw [Act.put_comm _ _ _ (fun d hd => by injection hd with hd; subst hd; intro he; injection he with he; exact hne he)]
    · subst e
      exact ⟨b, c, fun a => rfl, Ne.symm hk.1, h1, h3, h2, h4⟩
    · exact absurd (congrArg Prod.fst e).symm hne
  | p :: q :: r :: F, _, _, hs, _, all =>
    exfalso
    simp only [List.map_cons, List.nodup_cons, List.mem_cons, not_or] at hs
    have a1 := all p (by simp)
    have a2 := all q (by simp)
    have a3 := all r (by simp)
    rcases a1 with a1 | a1 <;> rcases a2 with a2 | a2 <;> rcases a3 with a3 | a3
    · exact hs.1.1 (a1.trans a2.symm)
    · exact hs.1.1 (a1.trans a2.symm)
    · exact hs.1.2.1 (a1.trans a3.symm)
    · exact hs.2.1.1 (a2.trans a3.symm)
    · exact hs.2.1.1 (a2.trans a3.symm)
    · exact hs.1.2.1 (a1.trans a3.symm)
    · exact hs.1.1 (a1.trans a2.symm)
    · exact hs.1.1 (a1.trans a2.symm)

/-- The head in the order of the text; then the tail, wherever the new variables have come to lie. -/
theorem wp_region_calm {id : Nat} {Q : Exit → Act → World → Prop} {a : Act} {w : World} {l : List Oper} (n : Nat) (fs : List Fresh) (bs : List Bool) (hm : P.follows .mixedOrders = true) (hB : Region.lexTailB .any l.toArray n = true)
    (hb : bs = (List.range n).map fun j => fs.any (·.idx == j)) (hok : FreshOk P l.toArray n fs)
    (h : wpCalm P l.toArray w (fun a' => ∀ F w', PlacedAll w fs F w' → wpList P l.toArray Q (l.drop n) (putL F a') w') (bs.zip (l.take n)) a) : (Code.region id l.toArray true).wp P Q a w := by
  simp only [Region.lexTailB, Bool.and_eq_true, decide_eq_true_eq] at hB
  obtain ⟨⟨⟨⟨hsel, hn⟩, hs⟩, hc⟩, hlex⟩ := hB
  have hn' : n < l.length := by simpa using hn
  have htl : (l.take n).length = n := by simp; omega
  have hbl : bs.length = n := by rw [hb]; simp
  have hzl : (bs.zip (l.take n)).length = n := by rw [List.length_zip, hbl, htl, Nat.min_self]
  have hdl : (l.drop n).length = l.toArray.size - n := by simp
  have inv0 : HeadInv .any l.toArray n (Array.replicate l.toArray.size false) :=
    ⟨by simp, fun j oj _ hl => (by rw [getD_replicate_false] at hl; cases hl), fun t _ ht => getD_in (by simpa using ht) (getD_replicate_false _ _)⟩
  have hz2 : ∀ j, j < n → ((bs.zip (l.take n))[j]?).map (·.2) = l[j]? := fun j hj => by
    rw [List.getElem?_eq_getElem (by rw [hzl]; exact hj), Option.map_some, List.getElem_zip]
    rw [List.getElem?_eq_getElem (by omega)]
    simp
  have hz1 : ∀ j, j < n → ((bs.zip (l.take n))[j]?).map (·.1) = some (fs.any (·.idx == j)) := fun j hj => by
    rw [List.getElem?_eq_getElem (by rw [hzl]; exact hj), Option.map_some, List.getElem_zip]
    congr 1
    simp only [hb, List.getElem_map, List.getElem_range]
  have H := wpHeadC_lex (P := P) (md := .any) (w0 := w) (fr := fun j => fs.any (·.idx == j)) (g := l.toArray.size - n) hsel hs hc hn (bs.zip (l.take n)) 0 _ a (fun j hj => by
    rw [hzl] at hj
    simpa using hz2 j hj) (fun j hj => by rw [hzl] at hj; simpa using hz1 j hj) (by rw [hzl]; omega) inv0 (by rw [hzl]; exact hlex) h
  refine wp_region_any hm ?_
  have p0 : Placed l.toArray w fs (Array.replicate l.toArray.size false) [] { w with drawn := w.drawn + 1 } :=
    ⟨⟨rfl, rfl, rfl, Nat.le_refl _, fun _ _ => rfl⟩, by simp, by simp, fun x _ hl => (by rw [getD_replicate_false] at hl; cases hl), fun p hp => by cases hp⟩
  have := wpAny_of_headC (Q' := Q) (g := l.toArray.size - n) hok (fun i => rfl) (Region.noSelect_spec hsel) (fun listed a' F w' inv hp hL => by
    have hall : ∀ i, i < n → listed.getD i false = true := fun i hi => by
      have hlt : i < listed.size := by rw [inv.size]; omega
      rcases hg : listed.getD i true with _ | _
      · exfalso
        have hq := hL.1
        obtain ⟨g', hg'⟩ : ∃ g', l.toArray.size - n = g' + 1 := ⟨l.toArray.size - n - 1, by omega⟩
        rw [hg'] at hq
        simp only [Region.seqB, Bool.and_eq_true, decide_eq_true_eq] at hq
        exact tail_waits hs hc hn inv _ i rfl hi hg n (Nat.le_refl _) (by rw [hq.1]; simp)
      · simpa [hlt] using hg
    have hp' : PlacedAll w fs F w' := ⟨hp.below, hp.blocks, hp.slots, fun x hx => hp.there x hx (hall _ (hok.lt x hx)), fun p hpF => by
        obtain ⟨_, y, hy, hyd, _⟩ := hp.from_ p hpF
        exact ⟨y, hy, hyd⟩⟩
    have := wpAny_of_seq (md := .any) (Q' := Q) (l.drop n) n listed (putL F a') w' (fun j => by simp [List.getElem?_drop]) (by rw [hdl]; exact hL.1) (hL.2 F w' hp')
    rwa [hdl] at this) _ _ _ _ _ inv0 p0 H
  rw [hzl, show n + (l.toArray.size - n) = l.toArray.size by omega] at this
  exact this
end
end Go.Proofs.Ytgikmcgoaihggaa
