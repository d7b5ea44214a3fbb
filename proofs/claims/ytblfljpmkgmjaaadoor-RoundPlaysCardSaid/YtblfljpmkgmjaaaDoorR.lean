/- Lists of records in memory: reading, owning, appending. Nothing of the program is named here. -/
import Derived.WalkKit
import Derived.Laws.AppendOwnNone
import Derived.BigQuiet
import Derived.Deep.QuietTactic
namespace Go.Proofs.YtblfljpmkgmjaaaDoor
open Go.RowKit

/-- What was there is there as it was. -/
def Gr (w w' : World) : Prop := Below w.heap.size w w'
theorem Gr.refl (w : World) : Gr w w := Below.refl _ _
theorem Gr.alloc {w a : World} (h : Gr w a) (o : Obj) : Gr w (a.alloc o) := Below.alloc h h.size o
theorem Gr.drew {w a : World} (h : Gr w a) : Gr w a.drew := Below.drew h
theorem Gr.drewN {w a : World} (h : Gr w a) (n : Nat) : Gr w (a.drewN n) := ⟨h.os, h.tape, h.output, h.size, h.block⟩
theorem Gr.trans {w a b : World} (h : Gr w a) (k : Gr a b) : Gr w b := Below.trans h (Below.mono k h.size)
theorem Gr.setCell {w a : World} (h : Gr w a) {p : Addr} (hp : w.heap.size ≤ p.block) (u : Value) : Gr w (a.setCell p u) := Below.setCell h hp u
theorem Gr.grown {w a w' : World} {row : Option Nat} (h : Gr w a) (hg : a.grownBy w' row) (hr : ∀ k, row = some k → w.heap.size ≤ k) : Gr w w' := Below.grown h hg (Below.size h) hr
theorem Gr.size {w a : World} (h : Gr w a) : w.heap.size ≤ a.heap.size := Below.size h
theorem Gr.cells {W w1 : World} (hb : Gr W w1) : (∀ b o, b < W.heap.size → w1.cell? ⟨b, o, none⟩ = W.cell? ⟨b, o, none⟩) ∧ (∀ b o, b < W.heap.size → w1.frozen? ⟨b, o, none⟩ = W.frozen? ⟨b, o, none⟩) ∧ W.heap.size ≤ w1.heap.size :=
  ⟨fun b o h => Below.cell hb (p := ⟨b, o, none⟩) h, fun b o h => Below.frozen hb (p := ⟨b, o, none⟩) h, hb.size⟩

theorem le_alloc {B : Nat} {w : World} (h : B ≤ w.heap.size) (o : Obj) : B ≤ (w.alloc o).heap.size := by simp; omega

/-- A later world, in which what was there is there as it was. -/
structure GrW (w : World) where
  to : World
  gr : Gr w to
theorem GrW.of {w w' : World} (h : ∃ x : GrW w, w' = x.to) : Gr w w' := by obtain ⟨x, rfl⟩ := h; exact x.gr
instance (w : World) : Nonempty (GrW w) := ⟨⟨w, Gr.refl w⟩⟩
theorem GrW.cell {w : World} {b o : Nat} {v : Value} (h : w.cell? ⟨b, o, none⟩ = some v) : ∀ x : GrW w, x.to.cell? ⟨b, o, none⟩ = some v := by
  intro x
  have hb : b < w.heap.size := by
    unfold World.cell? at h
    split at h
    · rename_i hb; exact (Array.getElem?_eq_some_iff.1 hb).1
    · cases h
  rw [x.gr.cells.1 b o hb]; exact h
/-- A region that draws its order, whose operations read and whose callees at most make memory: one walk, in the order of the text. -/
theorem wp_region_grows {P : Program} {id : Nat} {Q : Exit → Act → World → Prop} {a : Act} {w : World} {l : List Oper} (hm : P.follows .mixedOrders = true) (hB : Region.lexB .any l.toArray = true)
    (h : wpQuiet P l.toArray (fun w' => ∃ x : GrW w, w' = x.to) (fun a' => ∀ w', (∃ x : GrW w, w' = x.to) → Q .normal a' w') l a) : (Code.region id l.toArray true).wp P Q a w :=
  wp_region_quiet (C := fun w' => ∃ x : GrW w, w' = x.to) hm hB ⟨⟨_, (Gr.refl w).drew⟩, rfl⟩ (by simpa using h)
theorem Calls.grows {P : Program} {f : FuncId} {args : Array Value} {w : World} {x : GrW w} {v : Value}
    (h : Calls P f args x.to fun e w' => e = .returned v ∧ Gr x.to w') : Calls P f args x.to fun e w'' => e = .returned v ∧ ∃ y : GrW w, w'' = y.to :=
  h.mono fun _ w'' ⟨he, hg⟩ => ⟨he, ⟨w'', x.gr.trans hg⟩, rfl⟩
theorem Calls.grows_same {P : Program} {f : FuncId} {args : Array Value} {w : World} {x : GrW w} {v : Value}
    (h : Calls P f args x.to fun e w' => e = .returned v ∧ x.to = w') : Calls P f args x.to fun e w'' => e = .returned v ∧ ∃ y : GrW w, w'' = y.to :=
  h.mono fun _ _ ⟨he, hg⟩ => ⟨he, x, hg.symm⟩

/-- In w there lies at a what reads as l, each item as enc says, k cells each. -/
def RecsAt {α : Type} (k : Nat) (enc : α → List Value) (w : World) (a : Option Addr) (l : List α) : Prop :=
  ∀ (i : Nat) (s : α), l[i]? = some s → ∃ b off, a = some ⟨b, off, none⟩ ∧ b < w.heap.size ∧ ∀ (j : Nat) (u : Value), (enc s)[j]? = some u → w.cell? ⟨b, off + i * k + j, none⟩ = some u

section
variable {α : Type} {k : Nat} {enc : α → List Value}

theorem flat_len (hk : ∀ s, (enc s).length = k) (l : List α) : (l.flatMap enc).length = l.length * k := by
  induction l with
  | nil => simp
  | cons s r ih => rw [List.flatMap_cons, List.length_append, ih, hk, List.length_cons, Nat.add_mul, Nat.one_mul, Nat.add_comm]

theorem flat_get (hk : ∀ s, (enc s).length = k) : ∀ (l : List α) (i : Nat) (s : α) (j : Nat) (u : Value), l[i]? = some s → (enc s)[j]? = some u → (l.flatMap enc)[i * k + j]? = some u := by
  intro l
  induction l with
  | nil => intro i s j u h; simp at h
  | cons x r ih =>
    intro i s j u h hu
    rw [List.flatMap_cons]
    cases i with
    | zero =>
      obtain rfl : x = s := by simpa using h
      have hj : j < (enc x).length := (List.getElem?_eq_some_iff.1 hu).1
      rw [Nat.zero_mul, Nat.zero_add, List.getElem?_append_left hj]
      exact hu
    | succ i =>
      have h' : r[i]? = some s := by simpa using h
      rw [List.getElem?_append_right (by rw [hk, Nat.add_mul]; omega), hk, show (i + 1) * k + j - k = i * k + j by rw [Nat.add_mul]; omega]
      exact ih i s j u h' hu

theorem flat_at (hk : ∀ s, (enc s).length = k) (hp : 0 < k) (l : List α) (m : Nat) (u : Value) (h : (l.flatMap enc)[m]? = some u) : ∃ s, l[m / k]? = some s ∧ (enc s)[m % k]? = some u := by
  have hm : m < l.length * k := by rw [← flat_len hk l]; exact (List.getElem?_eq_some_iff.1 h).1
  have hi : m / k < l.length := (Nat.div_lt_iff_lt_mul hp).2 hm
  have hs : l[m / k]? = some l[m / k] := List.getElem?_eq_getElem hi
  have hj : m % k < (enc l[m / k]).length := by rw [hk]; exact Nat.mod_lt _ hp
  refine ⟨_, hs, ?_⟩
  have hu : (enc l[m / k])[m % k]? = some (enc l[m / k])[m % k] := List.getElem?_eq_getElem hj
  have := flat_get hk l _ _ _ _ hs hu
  rw [Nat.mul_comm, Nat.div_add_mod] at this
  rw [hu, ← this, h]

theorem RecsAt.of_below {w w' : World} {B : Nat} {a : Option Addr} {l : List α} (h : RecsAt k enc w a l) (hb : ∀ x, a = some x → x.block < B) (g : Below B w w') : RecsAt k enc w' a l := by
  intro i s hi
  obtain ⟨b, off, ha, hlt, hc⟩ := h i s hi
  have hB := hb _ ha
  exact ⟨b, off, ha, Nat.lt_of_lt_of_le hlt g.size, fun j u hu => by rw [g.cell (p := ⟨b, off + i * k + j, none⟩) hB]; exact hc j u hu⟩

theorem recs_take {w : World} {a : Option Addr} {l : List α} (h : RecsAt k enc w a l) (n : Nat) : RecsAt k enc w a (l.take n) := by
  intro i s hi
  rw [List.getElem?_take] at hi
  split at hi
  · exact h i s hi
  · cases hi

theorem recs_of_owns {w : World} {base : Nat} {e : TypeId} {v : Value} {l : List α} (hk : ∀ s, (enc s).length = k) (h : w.ownsRow base e k v l.length (l.flatMap enc)) :
    ∃ a c, v = .slice a l.length c ∧ RecsAt k enc w a l ∧ (a = none → c = 0) ∧ ∀ x, a = some x → base ≤ x.block := by
  obtain ⟨_, h | ⟨g, cap, cur, hv, hg, hh, hn, _, hsz, htk⟩⟩ := h
  · obtain ⟨rfl, hn⟩ := h
    obtain rfl : l = [] := List.length_eq_zero_iff.1 hn
    exact ⟨none, 0, rfl, (fun i s hs => by simp at hs), (fun _ => rfl), (fun x hx => by cases hx)⟩
  · refine ⟨some ⟨g, 0, none⟩, cap, hv, fun i s hi => ⟨g, 0, rfl, (Array.getElem?_eq_some_iff.1 hh).1, fun j u hu => ?_⟩, (fun hx => by cases hx), fun x hx => by cases hx; exact hg⟩
    have h1 := flat_get hk l i s j u hi hu
    rw [← htk] at h1
    rw [List.getElem?_take] at h1
    split at h1
    · rw [World.cell?, hh]
      simpa using h1
    · cases h1

theorem gr_grown {B : Nat} {w0 w w' : World} {v : Value} (h : Below B w0 w) (hg : w.grownBy w' v.ownBlock) (hB : B ≤ w.heap.size) (hv : ∀ k, v.ownBlock = some k → B ≤ k) : Below B w0 w' := h.grown hg hB hv

/-- The block of an owned slice is the call's own. -/
theorem own_block {w : World} {base : Nat} {e : TypeId} {size : Nat} {v : Value} {n : Nat} {xs : List Value} (h : w.ownsRow base e size v n xs) : ∀ k, v.ownBlock = some k → base ≤ k := by
  intro k hk
  obtain ⟨_, h | ⟨g, cap, cur, hv, hg, _⟩⟩ := h
  · obtain ⟨rfl, _⟩ := h; simp [Value.ownBlock] at hk
  · subst hv; simp [Value.ownBlock] at hk; omega

/-- A slice literal reads as its items. -/
theorem recs_alloc (hk : ∀ s, (enc s).length = k) (w : World) (l : List α) (e : TypeId) (cs : Array Value) (h : cs.toList = l.flatMap enc) : RecsAt k enc (w.alloc (.cells cs e)) (some ⟨w.heap.size, 0, none⟩) l := by
  intro i s hi
  refine ⟨w.heap.size, 0, rfl, by simp, fun j u hu => ?_⟩
  have h1 := flat_get hk l i s j u hi hu
  rw [← h] at h1
  rw [World.cell?, heap_alloc_new w _, Nat.zero_add]
  simpa using h1

/-- append(own, src...): the source read as records. -/
theorem wpList_append_recs {P : Program} {w : World} {ops : Array Oper} {rest : List Oper} {o : Oper} {a : Act} {Q : Exit → Act → World → Prop} (hgd : o.guard = none) (s x : Operand) (t : TypeId)
    (ho : o.op = .call { callee := .builtin .append, args := #[s, x], argTypes := #[t, t] })
    (base : Nat) (e : TypeId) (i : TypeInfo) (z : Value) (bytes : Nat) (ht : P.underlying t = some (.slice e)) (hi : P.info? e = some i) (hz : i.zero = some z)
    (hsize : i.size = k) (hby : i.bytes = bytes) (hzs : z.cells.size = k) (hsz : 0 < k)
    (hk : ∀ s, (enc s).length = k) (h1 : ∀ s, ∀ u ∈ enc s, u.oneCell' = true)
    (v : Value) (l0 : List α) (hs : a.eval s = v) (hown : w.ownsRow base e k v l0.length (l0.flatMap enc))
    (sa : Option Addr) (c : Nat) (l : List α) (hx : a.eval x = .slice sa l.length c) (hl : RecsAt k enc w sa l) (hc : sa = none → c = 0)
    (h63 : l0.length + l.length ≤ maxLen) (hbytes : (l0.length + l.length) * bytes ≤ 140737488355328) (hbase : base ≤ w.heap.size)
    (h : ∀ v' w', w'.ownsRow base e k v' (l0 ++ l).length ((l0 ++ l).flatMap enc) → w.grownBy w' v.ownBlock → wpList P ops Q rest (a.put o.dst v') w') : wpList P ops Q (o :: rest) a w := by
  cases sa with
  | none =>
    obtain rfl := hc rfl
    obtain rfl : l = [] := by
      cases l with
      | nil => rfl
      | cons y r => obtain ⟨b, off, hh, _⟩ := hl 0 y rfl; cases hh
    refine wpList_append_own_none hgd s x t ho base e i k ht hi v l0.length (l0.flatMap enc) hs hown hx ?_
    exact h v w (by simpa using hown) ⟨rfl, rfl, rfl, Nat.le_refl _, fun _ _ _ => rfl⟩
  | some ad =>
    refine wpList_append_own w hgd s x t ho base e i z k bytes ht hi hz hsize hby hzs hsz v l0.length (l0.flatMap enc) hs hown ad l.length c (l.flatMap enc) hx (flat_len hk l) ?_ ?_ h63 hbytes hbase ?_
    · intro j u hj
      obtain ⟨y, hy, hu⟩ := flat_at hk hsz l j u hj
      obtain ⟨b, off, hh, _, hcell⟩ := hl _ y hy
      obtain rfl := Option.some.inj hh
      have := hcell _ u hu
      have e1 : off + j / k * k + j % k = off + j := by rw [Nat.add_assoc, Nat.mul_comm, Nat.div_add_mod]
      rw [e1] at this
      unfold Addr.add
      by_cases hj0 : j = 0
      · subst hj0; simpa using this
      · simpa [hj0] using this
    · intro u hu
      obtain ⟨y, _, hy⟩ := List.mem_flatMap.1 hu
      exact h1 y u hy
    · intro v' w' ho' hg' _
      exact h v' w' (by simpa using ho') hg'

/-- A slice literal of no items. -/
theorem owns_empty (w : World) (e : TypeId) (k : Nat) (o : Obj) (ho : o = .cells #[] e (0, 0)) (base : Nat) (hb : base ≤ w.heap.size) : (w.alloc o).ownsRow base e k (.slice (some ⟨w.heap.size, 0, none⟩) 0 0) ([] : List α).length (([] : List α).flatMap enc) := by
  subst ho
  refine ⟨by simp, .inr ⟨w.heap.size, 0, #[], rfl, hb, heap_alloc_new w _, Nat.le_refl _, Nat.zero_le _, by simp, by simp⟩⟩

/-- append([]T{}, src...): a copy of the source. -/
theorem wpList_copy_recs {P : Program} {w : World} {ops : Array Oper} {rest : List Oper} {o : Oper} {a : Act} {Q : Exit → Act → World → Prop} (hgd : o.guard = none) (s x : Operand) (t : TypeId)
    (ho : o.op = .call { callee := .builtin .append, args := #[s, x], argTypes := #[t, t] })
    (e : TypeId) (i : TypeInfo) (z : Value) (bytes : Nat) (ht : P.underlying t = some (.slice e)) (hi : P.info? e = some i) (hz : i.zero = some z)
    (hsize : i.size = k) (hby : i.bytes = bytes) (hzs : z.cells.size = k) (hsz : 0 < k)
    (hk : ∀ s, (enc s).length = k) (h1 : ∀ s, ∀ u ∈ enc s, u.oneCell' = true) (hs : a.eval s = .slice (some ⟨w.heap.size, 0, none⟩) 0 0)
    (sa : Option Addr) (c : Nat) (l : List α) (hx : a.eval x = .slice sa l.length c) (hl : RecsAt k enc w sa l) (hc : sa = none → c = 0)
    (h63 : l.length ≤ maxLen) (hbytes : l.length * bytes ≤ 140737488355328)
    (h : ∀ a' c' w', RecsAt k enc w' a' l → (a' = none → c' = 0) → (∀ x, a' = some x → w.heap.size ≤ x.block) → Gr w w' → wpList P ops Q rest (a.put o.dst (.slice a' l.length c')) w') : wpList P ops Q (o :: rest) a (w.alloc (.cells #[] e)) := by
  have hl' : RecsAt k enc (w.alloc (.cells #[] e)) sa l := by
    intro i s hi
    obtain ⟨b, off, ha, hb, hcl⟩ := hl i s hi
    exact ⟨b, off, ha, by simp; omega, fun j u hu => by rw [((Gr.refl w).alloc (.cells #[] e)).cells.1 _ _ hb]; exact hcl j u hu⟩
  refine wpList_append_recs (k := k) (enc := enc) hgd s x t ho w.heap.size e i z bytes ht hi hz hsize hby hzs hsz hk h1 (.slice (some ⟨w.heap.size, 0, none⟩) 0 0) [] hs (owns_empty w e k _ rfl _ (Nat.le_refl _)) sa c l hx hl' hc (by simpa using h63) (by simpa using hbytes) (by simp) ?_
  intro v' w' hown hgr
  obtain ⟨a', c', hv, hr, hn, hB⟩ := recs_of_owns (l := [] ++ l) hk hown
  rw [hv]
  exact h a' c' w' hr hn hB (((Gr.refl w).alloc _).grown hgr (by simp [Value.ownBlock]))
end
end Go.Proofs.YtblfljpmkgmjaaaDoor
