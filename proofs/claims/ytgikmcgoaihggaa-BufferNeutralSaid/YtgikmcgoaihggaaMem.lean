/- What the heap's blocks hold, by the type of their elements; what leaves them so; append onto a row of the call's own. -/
import Derived.Test.YtgikmcgoaihggaaBase
import Derived.Deep.AppendLies
import Derived.OneCell
import Derived.OwnWalk
import Derived.Laws.ResultCell
set_option linter.unusedVariables false
set_option linter.unusedSimpArgs false
namespace Go.Proofs.Ytgikmcgoaihggaa
open Go.RowKit

/-- A block of cells, whole. -/
abbrev Blk (w : World) (b : Nat) (e : TypeId) (cs : Array Value) : Prop := w.heap[b]? = some (.cells cs e (0, 0))
def offT (T : List TypeId) : Obj → Bool
  | .cells _ e _ => !T.contains e
  | _ => true
/-- The blocks below B, and those whose elements are of none of the types T, are as they were. -/
structure FrT (B : Nat) (T : List TypeId) (w w' : World) : Prop where
  os : w'.os = w.os
  tape : w'.tape = w.tape
  output : w'.output = w.output
  size : w.heap.size ≤ w'.heap.size
  block : ∀ i o, w.heap[i]? = some o → (i < B ∨ offT T o = true) → w'.heap[i]? = some o

section
variable {B : Nat} {T : List TypeId} {a b w w' W : World}
theorem FrT.refl (B : Nat) (T : List TypeId) (w : World) : FrT B T w w := ⟨rfl, rfl, rfl, Nat.le_refl _, fun _ _ h _ => h⟩
theorem FrT.trans (h : FrT B T a b) (k : FrT B T b w) : FrT B T a w :=
  ⟨k.os.trans h.os, k.tape.trans h.tape, k.output.trans h.output, Nat.le_trans h.size k.size, fun i o hi hc => k.block i o (h.block i o hi hc) hc⟩
theorem offT_sub {T T' : List TypeId} (hT : ∀ e ∈ T, e ∈ T') {o : Obj} (h : offT T' o = true) : offT T o = true := by
  unfold offT at *
  cases o <;> simp_all
  exact fun hm => h (hT _ hm)
theorem FrT.mono (h : FrT B T a b) {B' : Nat} {T' : List TypeId} (hB : B' ≤ B) (hT : ∀ e ∈ T, e ∈ T') : FrT B' T' a b :=
  ⟨h.os, h.tape, h.output, h.size, fun i o hi hc => h.block i o hi (hc.imp (fun x => Nat.lt_of_lt_of_le x hB) (offT_sub hT))⟩
/-- What leaves a place's blocks below the heap's size so is within any such frame. -/
theorem FrT.lift (h : FrT w.heap.size T w w') (B : Nat) (T' : List TypeId) : FrT B T' w w' :=
  ⟨h.os, h.tape, h.output, h.size, fun i o hi _ => h.block i o hi (.inl (Array.getElem?_eq_some_iff.1 hi).1)⟩
theorem FrT.ofBelow (h : Below w.heap.size w w') (B : Nat) (T : List TypeId) : FrT B T w w' :=
  ⟨h.os, h.tape, h.output, h.size, fun i o hi _ => (h.block i (Array.getElem?_eq_some_iff.1 hi).1).trans hi⟩
theorem FrT.toBelow (h : FrT B T w w') (hB : B ≤ w.heap.size) : Below B w w' :=
  ⟨h.os, h.tape, h.output, h.size, fun i hi => by rw [h.block i _ (Array.getElem?_eq_getElem (by omega)) (.inl hi), Array.getElem?_eq_getElem]⟩
theorem FrT.drew (h : FrT B T a w) : FrT B T a w.drew := ⟨h.os, h.tape, h.output, h.size, h.block⟩
theorem FrT.drewN (h : FrT B T a w) (n : Nat) : FrT B T a (w.drewN n) := ⟨h.os, h.tape, h.output, h.size, h.block⟩
theorem FrT.undrew (h : FrT B T w.drew w') : FrT B T w w' := ⟨h.os, h.tape, h.output, h.size, h.block⟩
theorem FrT.undrewN {n : Nat} (h : FrT B T (w.drewN n) w') : FrT B T w w' := ⟨h.os, h.tape, h.output, h.size, h.block⟩
theorem FrT.alloc (h : FrT B T a w) (o : Obj) : FrT B T a (w.alloc o) :=
  h.trans ⟨rfl, rfl, rfl, by simp, fun i x hi _ => by rw [Below.heap_alloc _ _ _ (Array.getElem?_eq_some_iff.1 hi).1]; exact hi⟩
theorem FrT.setNew (h : FrT B T a w) {p : Addr} (hp : a.heap.size ≤ p.block) (u : Value) : FrT B T a (w.setCell p u) :=
  ⟨h.os, h.tape, h.output, by simpa [World.setCell] using h.size, fun i o hi hc => by
    have := (Array.getElem?_eq_some_iff.1 hi).1
    rw [Below.heap_setCell _ _ _ _ (by omega)]; exact h.block i o hi hc⟩
theorem FrT.set (h : FrT B T a w) {p : Addr} {cs : Array Value} {e : TypeId} {z : Nat × Nat} (hb : w.heap[p.block]? = some (.cells cs e z)) (he : T.contains e = true) (hp : B ≤ p.block) (u : Value) : FrT B T a (w.setCell p u) :=
  ⟨h.os, h.tape, h.output, by simpa [World.setCell] using h.size, fun i o hi hc => by
    by_cases hip : i = p.block
    · subst hip
      have h1 := h.block _ _ hi hc
      rw [hb] at h1
      obtain rfl := Option.some.inj h1
      rcases hc with hc | hc
      · omega
      · simp only [offT, he, Bool.not_true] at hc; cases hc
    · rw [Below.heap_setCell _ _ _ _ hip]; exact h.block i o hi hc⟩
theorem FrT.grown {base : Nat} {e : TypeId} {size n : Nat} {v : Value} {xs : List Value} (h : FrT B T a w) (hown : w.ownsRow base e size v n xs) (hg : w.grownBy w' v.ownBlock)
    (he : T.contains e = true ∧ B ≤ base ∨ a.heap.size ≤ base) : FrT B T a w' :=
  ⟨hg.os.trans h.os, hg.tape.trans h.tape, hg.output.trans h.output, Nat.le_trans h.size hg.size, fun i o hi hc => by
    have h1 := h.block i o hi hc
    refine (hg.block i (Array.getElem?_eq_some_iff.1 h1).1 ?_).trans h1
    intro hv
    rcases hown.2 with ⟨rfl, _⟩ | ⟨g, cap, cur, rfl, hbg, hgh, _⟩
    · simp [Value.ownBlock] at hv
    · simp only [Value.ownBlock, Option.some.injEq] at hv
      subst hv
      have := (Array.getElem?_eq_some_iff.1 hi).1
      rcases he with ⟨he, hB⟩ | he
      · rw [hgh] at h1
        obtain rfl := Option.some.inj h1
        rcases hc with hc | hc
        · omega
        · simp only [offT, he, Bool.not_true] at hc; cases hc
      · omega⟩
/-- What a block holds, carried. -/
theorem FrT.blk (h : FrT B T w w') {i : Nat} {e : TypeId} {cs : Array Value} (hb : Blk w i e cs) (hc : i < B ∨ T.contains e = false) : Blk w' i e cs :=
  h.block i _ hb (hc.imp id (fun h => by simp only [offT, h, Bool.not_false]))
theorem Blk.lt {i : Nat} {e : TypeId} {cs : Array Value} (h : Blk w i e cs) : i < w.heap.size := (Array.getElem?_eq_some_iff.1 h).1
theorem FrT.row (h : FrT B T w w') {base : Nat} {e : TypeId} {size n : Nat} {v : Value} {xs : List Value} (hown : w.ownsRow base e size v n xs)
    (hc : T.contains e = false ∨ ∀ g, v.ownBlock = some g → g < B) : w'.ownsRow base e size v n xs := by
  obtain ⟨h1, h2⟩ := hown
  refine ⟨h1, ?_⟩
  rcases h2 with h2 | ⟨g, cap, cur, rfl, hbg, hg, r⟩
  · exact .inl h2
  · exact .inr ⟨g, cap, cur, rfl, hbg, h.blk hg (by rcases hc with hc | hc; exact .inr hc; exact .inl (hc g rfl)), r⟩
theorem ownsRow_mono {base base' : Nat} {e : TypeId} {size n : Nat} {v : Value} {xs : List Value} (hown : w.ownsRow base e size v n xs) (h : base' ≤ base) : w.ownsRow base' e size v n xs := by
  obtain ⟨h1, h2⟩ := hown
  refine ⟨h1, h2.imp id ?_⟩
  rintro ⟨g, cap, cur, rfl, hbg, r⟩
  exact ⟨g, cap, cur, rfl, Nat.le_trans h hbg, r⟩

theorem Blk.cell {i : Nat} {e : TypeId} {cs : Array Value} (h : Blk w i e cs) (k : Nat) : w.cell? ⟨i, k, none⟩ = cs[k]? := cell_of_row w i k cs e (0, 0) h
theorem Blk.free {i : Nat} {e : TypeId} {cs : Array Value} (h : Blk w i e cs) (k : Nat) : w.frozen? ⟨i, k, none⟩ = false := frozen_of_row w i k cs e h
theorem Blk.alloc {i : Nat} {e : TypeId} {cs : Array Value} (h : Blk w i e cs) (o : Obj) : Blk (w.alloc o) i e cs := by
  unfold Blk; rw [Below.heap_alloc _ _ _ h.lt]; exact h
theorem Blk.drew {i : Nat} {e : TypeId} {cs : Array Value} (h : Blk w i e cs) : Blk w.drew i e cs := h
theorem Blk.other {i : Nat} {e : TypeId} {cs : Array Value} (h : Blk w i e cs) {p : Addr} (hp : i ≠ p.block) (u : Value) : Blk (w.setCell p u) i e cs := by
  unfold Blk; rw [Below.heap_setCell _ _ _ _ hp]; exact h
theorem Blk.new (w : World) (e : TypeId) (cs : Array Value) : Blk (w.alloc (.cells cs e)) w.heap.size e cs := heap_alloc_new w _
theorem Blk.set {i : Nat} {e : TypeId} {cs : Array Value} (h : Blk w i e cs) (k : Nat) (u : Value) : Blk (w.setCell ⟨i, k, none⟩ u) i e (cs.setIfInBounds k u) := heap_setCell_same w i k cs e u h
theorem Blk.newAt {w : World} {e : TypeId} {cs : Array Value} {n : Nat} (h : w.heap.size = n) : Blk (w.alloc (.cells cs e)) n e cs := by subst h; exact heap_alloc_new w _
theorem Blk.below {w w' : World} {i : Nat} {e : TypeId} {cs : Array Value} (h : Below w.heap.size w w') (hb : Blk w i e cs) : Blk w' i e cs := (h.block i hb.lt).trans hb
theorem Blk.c1 {i : Nat} {e : TypeId} {x : Value} (h : Blk w i e #[x]) : w.cell? ⟨i, 0, none⟩ = some x ∧ w.frozen? ⟨i, 0, none⟩ = false := ⟨h.cell 0, h.free 0⟩
theorem Blk.c2 {i : Nat} {e : TypeId} {x y : Value} (h : Blk w i e #[x, y]) : (w.cell? ⟨i, 0, none⟩ = some x ∧ w.frozen? ⟨i, 0, none⟩ = false) ∧ w.cell? ⟨i, 1, none⟩ = some y ∧ w.frozen? ⟨i, 1, none⟩ = false := ⟨⟨h.cell 0, h.free 0⟩, h.cell 1, h.free 1⟩
theorem Blk.c3 {i : Nat} {e : TypeId} {x y z : Value} (h : Blk w i e #[x, y, z]) : (w.cell? ⟨i, 0, none⟩ = some x ∧ w.frozen? ⟨i, 0, none⟩ = false) ∧ (w.cell? ⟨i, 1, none⟩ = some y ∧ w.frozen? ⟨i, 1, none⟩ = false) ∧ w.cell? ⟨i, 2, none⟩ = some z ∧ w.frozen? ⟨i, 2, none⟩ = false :=
  ⟨⟨h.cell 0, h.free 0⟩, ⟨h.cell 1, h.free 1⟩, h.cell 2, h.free 2⟩
theorem Blk.c4 {i : Nat} {e : TypeId} {x y z u : Value} (h : Blk w i e #[x, y, z, u]) : (w.cell? ⟨i, 0, none⟩ = some x ∧ w.frozen? ⟨i, 0, none⟩ = false) ∧ (w.cell? ⟨i, 1, none⟩ = some y ∧ w.frozen? ⟨i, 1, none⟩ = false) ∧ (w.cell? ⟨i, 2, none⟩ = some z ∧ w.frozen? ⟨i, 2, none⟩ = false) ∧ w.cell? ⟨i, 3, none⟩ = some u ∧ w.frozen? ⟨i, 3, none⟩ = false :=
  ⟨⟨h.cell 0, h.free 0⟩, ⟨h.cell 1, h.free 1⟩, ⟨h.cell 2, h.free 2⟩, h.cell 3, h.free 3⟩
end

/-- A slice that may be read: m elements, the cells 'news'. -/
def Src (w : World) (size : Nat) (v : Value) (m : Nat) (news : List Value) : Prop :=
  news.length = m * size ∧ (∀ u ∈ news, u.oneCell' = true) ∧
  ((v = .slice none 0 0 ∧ m = 0) ∨ ∃ ad c, v = .slice (some ad) m c ∧ ∀ j u, news[j]? = some u → w.cell? (ad.add j) = some u)
theorem Src.nil (w : World) (size : Nat) : Src w size (.slice none 0 0) 0 [] := ⟨by simp, by simp, .inl ⟨rfl, rfl⟩⟩
theorem Src.blk {w : World} {b : Nat} {e : TypeId} {cs : Array Value} (h : Blk w b e cs) {size m : Nat} (hl : cs.size = m * size) (h1 : ∀ u ∈ cs.toList, u.oneCell' = true) (c : Nat) : Src w size (.slice (some ⟨b, 0, none⟩) m c) m cs.toList :=
  ⟨by simpa using hl, h1, .inr ⟨_, _, rfl, World.news_of_block h⟩⟩
theorem Src.row {w : World} {base : Nat} {e : TypeId} {size n : Nat} {v : Value} {xs : List Value} (h : w.ownsRow base e size v n xs) (h1 : ∀ u ∈ xs, u.oneCell' = true) : Src w size v n xs := by
  refine ⟨h.1, h1, ?_⟩
  rcases h.2 with ⟨rfl, h0⟩ | ⟨g, cap, cur, rfl, _⟩
  · exact .inl ⟨rfl, h0⟩
  · exact .inr ⟨_, _, rfl, h.cells rfl⟩

theorem ownsRow_empty {w : World} {n base : Nat} {e : TypeId} {size : Nat} (h : w.heap.size = n) (hb : base ≤ n) : (w.alloc (.cells #[] e)).ownsRow base e size (.slice (some ⟨n, 0, none⟩) 0 0) 0 [] := by
  subst h
  exact World.ownsRow_lit w #[] 0 hb (by simp [maxLen]) (by simp)
theorem Src.two {w : World} {x y : Value} {e : TypeId} {n : Nat} (h : w.heap.size = n) (hx : x.oneCell' = true) (hy : y.oneCell' = true) : Src (w.alloc (.cells #[x, y] e)) 2 (.slice (some ⟨n, 0, none⟩) 1 1) 1 [x, y] :=
  Src.blk (cs := #[x, y]) (Blk.newAt h) rfl (by simp [hx, hy]) 1
theorem Src.below {w w' : World} {size m : Nat} {v : Value} {news : List Value} (h : Below w.heap.size w w') (k : Src w size v m news) : Src w' size v m news := by
  obtain ⟨k1, k2, k3⟩ := k
  refine ⟨k1, k2, k3.imp id ?_⟩
  rintro ⟨ad, c, rfl, hc⟩
  exact ⟨ad, c, rfl, fun j u hj => by have := hc j u hj; exact (h.cell (World.block_lt_of_cell? w _ this)).trans this⟩
theorem Blk.set4 {w : World} {i : Nat} {e : TypeId} {a b c d : Value} (h : Blk w i e #[a, b, c, d]) (x y z u : Value) :
    Blk ((((w.setCell ⟨i, 0, none⟩ x).setCell ⟨i, 1, none⟩ y).setCell ⟨i, 2, none⟩ z).setCell ⟨i, 3, none⟩ u) i e #[x, y, z, u] ∧ FrT 0 [e] w ((((w.setCell ⟨i, 0, none⟩ x).setCell ⟨i, 1, none⟩ y).setCell ⟨i, 2, none⟩ z).setCell ⟨i, 3, none⟩ u) := by
  have h1 := h.set 0 x
  have h2 := h1.set 1 y
  have h3 := h2.set 2 z
  have he : [e].contains e = true := by simp
  exact ⟨h3.set 3 u, ((((FrT.refl 0 [e] w).set h he (Nat.zero_le _) x).set h1 he (Nat.zero_le _) y).set h2 he (Nat.zero_le _) z).set h3 he (Nat.zero_le _) u⟩
/-- What is known of a slice's element type. -/
structure El (P : Program) (t e : TypeId) (size bytes : Nat) : Prop where
  und : P.underlying t = some (.slice e)
  info : ∃ i z, P.info? e = some i ∧ i.zero = some z ∧ i.size = size ∧ i.bytes = bytes ∧ z.cells.size = size
  pos : 0 < size
theorem El.of {P : Program} {t e : TypeId} {size bytes : Nat} {z : Value} (h : P.underlying t = some (.slice e)) (k : (P.info? e).map (fun i => (i.zero, i.size, i.bytes)) = some (some z, size, bytes)) (hz : z.cells.size = size) (hp : 0 < size) : El P t e size bytes := by
  obtain ⟨i, h1, h2, h3, h4⟩ := info_parts k
  exact ⟨h, ⟨i, z, h1, h2, h3, h4, hz⟩, hp⟩

section
variable {P : Program} (w : World) {T : List TypeId}
/-- 'append(v, x...)', v a row of the call's own, x whatever slice. -/
theorem run_app {t e : TypeId} {size bytes : Nat} (E : El P t e size bytes) (base : Nat) (ty : TypeId) (v : Value) (n : Nat) (xs : List Value) (hown : w.ownsRow base e size v n xs) (x : Value) (m : Nat) (news : List Value) (hx : Src w size x m news)
    (h63 : n + m ≤ 1000000) (hb : bytes ≤ 1000) (hbase : base ≤ w.heap.size) :
    ∃ v' w', (Builtin.append_ #[t, t] ty #[v, x]).run P w = .ok v' w' ∧ w'.ownsRow base e size v' (n + m) (xs ++ news) ∧ w.grownBy w' v.ownBlock ∧ (v'.ownBlock = v.ownBlock ∨ v'.ownBlock = some w.heap.size) := by
  obtain ⟨ht, ⟨i, z, hi, hz, hs, hby, hzs⟩, hp⟩ := E
  obtain ⟨hl, h1, hx⟩ := hx
  rcases hx with ⟨rfl, rfl⟩ | ⟨ad, c, rfl, hc⟩
  · obtain rfl : news = [] := List.eq_nil_of_length_eq_zero (by simpa using hl)
    exact ⟨v, w, run_append_owned_none w base t ty e i size ht hi v n xs hown, by simpa using hown, World.grownBy.refl _ _, .inl rfl⟩
  · obtain ⟨v', w', r1, r2, r3, _, r5⟩ := run_append_own_at (P := P) w base t ty e i z size bytes ht hi hz hs hby hzs hp v n xs hown ad m c news hl hc h1 (by simp only [maxLen]; omega) (by
      have : (n + m) * bytes ≤ 1000000 * 1000 := Nat.mul_le_mul h63 hb
      omega) hbase
    exact ⟨v', w', r1, r2, r3, r5⟩

theorem wp_app {o : Oper} {a : Act} {K : Act → World → Prop} {Q : Exit → Act → World → Prop} {t e : TypeId} {size bytes : Nat} (E : El P t e size bytes) (s x : Operand)
    (ho : o.op = .call { callee := .builtin .append, args := #[s, x], argTypes := #[t, t] })
    (base : Nat) (v : Value) (n : Nat) (xs : List Value) (hs : a.eval s = v) (hown : w.ownsRow base e size v n xs) (xv : Value) (m : Nat) (news : List Value) (hxv : a.eval x = xv) (hx : Src w size xv m news)
    (h63 : n + m ≤ 1000000) (hb : bytes ≤ 1000) (hbase : base ≤ w.heap.size) (hT : T.contains e = true)
    (h : ∀ v' w', w'.ownsRow base e size v' (n + m) (xs ++ news) → FrT base T w w' → K (a.put o.dst v') w') : o.wp P a w K Q := by
  obtain ⟨v', w', hr, h2, h3, _⟩ := run_app w E base o.type v n xs hown xv m news hx h63 hb hbase
  unfold Oper.wp execOp
  simp only [ho, resolve, invoke, builtin, Sem.run_bind, Sem.run_pure, Result.andThen_ok, List.map_toArray, List.map_cons, List.map_nil, hs, hxv, hr]
  exact h v' w' h2 ((FrT.refl _ _ _).grown hown h3 (.inl ⟨hT, Nat.le_refl _⟩))

theorem wpList_app {ops : Array Oper} {rest : List Oper} {o : Oper} {a : Act} {Q : Exit → Act → World → Prop} (T : List TypeId) (hgd : o.guard = none) {t e : TypeId} {size bytes : Nat} (E : El P t e size bytes) (s x : Operand)
    (ho : o.op = .call { callee := .builtin .append, args := #[s, x], argTypes := #[t, t] })
    (base : Nat) (v : Value) (n : Nat) (xs : List Value) (hs : a.eval s = v) (hown : w.ownsRow base e size v n xs) (xv : Value) (m : Nat) (news : List Value) (hxv : a.eval x = xv) (hx : Src w size xv m news)
    (h63 : n + m ≤ 1000000) (hb : bytes ≤ 1000) (hbase : base ≤ w.heap.size) (hT : T.contains e = true)
    (h : ∀ v' w', w'.ownsRow base e size v' (n + m) (xs ++ news) → FrT base T w w' → wpList P ops Q rest (a.put o.dst v') w') : wpList P ops Q (o :: rest) a w :=
  wpList_plain hgd fun _ hK => wp_app w E s x ho base v n xs hs hown xv m news hxv hx h63 hb hbase hT fun v' w' h2 h3 => hK _ _ (h v' w' h2 h3)

theorem wpList_appx {ops : Array Oper} {rest : List Oper} {o : Oper} {a : Act} {Q : Exit → Act → World → Prop} (hgd : o.guard = none) {t e : TypeId} {size bytes : Nat} (E : El P t e size bytes) (s x : Operand)
    (ho : o.op = .call { callee := .builtin .append, args := #[s, x], argTypes := #[t, t] })
    (base : Nat) (v : Value) (n : Nat) (xs : List Value) (hs : a.eval s = v) (hown : w.ownsRow base e size v n xs) (xv : Value) (m : Nat) (news : List Value) (hxv : a.eval x = xv) (hx : Src w size xv m news)
    (h63 : n + m ≤ 1000000) (hb : bytes ≤ 1000) (hbase : base ≤ w.heap.size)
    (h : ∀ v' w', w'.ownsRow base e size v' (n + m) (xs ++ news) → w.grownBy w' v.ownBlock → (v'.ownBlock = v.ownBlock ∨ v'.ownBlock = some w.heap.size) → wpList P ops Q rest (a.put o.dst v') w') : wpList P ops Q (o :: rest) a w :=
  wpList_plain hgd fun _ hK => by
    obtain ⟨v', w', hr, h2, h3, h4⟩ := run_app w E base o.type v n xs hown xv m news hx h63 hb hbase
    unfold Oper.wp execOp
    simp only [ho, resolve, invoke, builtin, Sem.run_bind, Sem.run_pure, Result.andThen_ok, List.map_toArray, List.map_cons, List.map_nil, hs, hxv, hr]
    exact hK _ _ (h v' w' h2 h3 h4)

theorem step_app {ops : Array Oper} {o : Oper} {a : Act} {K : Act → World → Prop} {Q : Exit → Act → World → Prop} {F : Prop} (T : List TypeId) (hgd : o.guard = none) {t e : TypeId} {size bytes : Nat} (E : El P t e size bytes) (s x : Operand)
    (ho : o.op = .call { callee := .builtin .append, args := #[s, x], argTypes := #[t, t] })
    (base : Nat) (v : Value) (n : Nat) (xs : List Value) (hs : a.eval s = v) (hown : w.ownsRow base e size v n xs) (xv : Value) (m : Nat) (news : List Value) (hxv : a.eval x = xv) (hx : Src w size xv m news)
    (h63 : n + m ≤ 1000000) (hb : bytes ≤ 1000) (hbase : base ≤ w.heap.size) (hT : T.contains e = true)
    (h : ∀ v' w', w'.ownsRow base e size v' (n + m) (xs ++ news) → FrT base T w w' → K (a.put o.dst v') w') :
    if Region.wanted o (yielded ops a.tmps) = true then Oper.wp P o a w K Q else F := by
  have hw : Region.wanted o (yielded ops a.tmps) = true := by simp [Region.wanted, hgd]
  rw [if_pos hw]
  exact wp_app w E s x ho base v n xs hs hown xv m news hxv hx h63 hb hbase hT h
end
/-- 'make([]T, n)' where the operation is guarded, and wanted. -/
theorem wpList_make_g {P : Program} (w : World) {ops : Array Oper} {rest : List Oper} {o : Oper} {a : Act} {Q : Exit → Act → World → Prop}
    (hg : Region.wanted o (yielded ops a.tmps) = true) (l c : Operand) (t : TypeId) (hop : o.op = Op.makeSlice t l c)
    (base : Nat) (e : TypeId) (i : TypeInfo) (z : Value) (size : Nat) (h1 : P.underlying t = some (.slice e)) (h2 : P.info? e = some i) (h3 : i.zero = some z) (h4 : i.size = size)
    (kl kc : IntKind) (L C : Int) (n : Nat) (hl : a.eval l = .int kl L) (hc : a.eval c = .int kc C) (hL : L = (n : Int)) (hC : C = (n : Int)) (b2 : i.bytes * n ≤ 281474976710656) (b3 : n ≤ maxLen) (b4 : base ≤ w.heap.size)
    (hK : ∀ w', w'.ownsRow base e size (.slice (some ⟨w.heap.size, 0, none⟩) n n) n (madeCells z.cells (n * size)).toList → w.grownBy w' none → wpList P ops Q rest (a.put o.dst (.slice (some ⟨w.heap.size, 0, none⟩) n n)) w') :
    wpList P ops Q (o :: rest) a w := by
  refine wpList_step fun K hK' => ?_
  rw [if_pos hg]
  obtain ⟨w', hrun, r1, r2⟩ := run_make_full (P := P) w base t e i z size h1 h2 h3 h4 kl kc n b2 b3 b4
  subst hL
  subst hC
  unfold Oper.wp
  simp [execOp, hop, hl, hc, hrun, Result.andThen]
  exact hK' _ _ (hK w' r1 r2)
/-- Results: a variable in memory, a slot. -/
theorem results_ct {P : Program} {fn : Func} {p u : Tmp} {ty : TypeId} (h : fn.results = #[.cell p ty, .tmp u]) (tmps : Array Value) {w : World} {g : Nat} {cs : Array Value} {d : TypeDesc}
    (hb : Blk w g ty cs) (hp : tmps.getD p undef = .pointer (some ⟨g, 0, none⟩)) 
    (hu : P.underlying ty = some d) (hd : (match d with | .struct _ | .array _ _ => true | _ => false) = true) (hi : (P.info? ty).map (·.size) = some cs.size) :
    (results fn tmps).run P w = .ok (.tuple #[.agg cs, tmps.getD u undef]) w := by
  rw [results_cell_tmp h, hp]
  simp only [asAddr, Sem.run_pure, Result.andThen_ok, run_loadVar_row w g ty ty cs (0, 0) d hb hu hd hi]
end Go.Proofs.Ytgikmcgoaihggaa
