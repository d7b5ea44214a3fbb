/- Lists of records in memory: reading, owning, appending. Nothing of the program is named here. -/
import Derived.WalkKit
import Derived.Laws.AppendOwnNone
import Derived.BigQuiet
import Derived.Deep.QuietTactic
import Derived.Test.YtglfdnfojpdkjaaGreatDoorRows
import Derived.WalkSpells
import Derived.WalkLawsBesides
import Derived.Lib.Hide
import Derived.Deep.RegionHeld3
import Derived.Deep.DrawnRows
import Derived.Deep.DeepFit
import Derived.LaidEql
import Derived.Laws.Rows
import Derived.Laws.IdiomCopy
import Derived.Maps.AppendAt
import Derived.OneCell
namespace Go.Proofs.YtglfdnfojpdkjaaGreatDoor
open Go.RowKit

/-- What was there is there as it was. -/
def Gr (w w' : World) : Prop := Below w.heap.size w w'
theorem Gr.refl (w : World) : Gr w w := Below.refl _ _
theorem Gr.alloc {w a : World} (h : Gr w a) (o : Obj) : Gr w (a.alloc o) := Below.alloc h h.size o
theorem Gr.drew {w a : World} (h : Gr w a) : Gr w a.drew := Below.drew h
theorem Gr.drewN {w a : World} (h : Gr w a) (n : Nat) : Gr w (a.drewN n) := ⟨h.os, h.tape, h.output, h.size, h.block⟩
theorem Gr.trans {w a b : World} (h : Gr w a) (k : Gr a b) : Gr w b := Below.trans h (Below.mono k h.size)
theorem Gr.setCell {w a : World} (h : Gr w a) {p : Addr} (hp : w.heap.size ≤ p.block) (u : Value) : Gr w (a.setCell p u) := Below.setCell h hp u
theorem Gr.grown {w a w' : World} {row : Option Nat} (h : Gr w a) (hg : a.grownBy w' row) (hr : ∀ k, row = some k → w.heap.size ≤ k) : Gr w w' := Below.grown h hg (Below.size h) hr
theorem Gr.size {w a : World} (h : Gr w a) : w.heap.size ≤ a.heap.size := Below.size h
theorem Gr.cells {W w1 : World} (hb : Gr W w1) : (∀ b o, b < W.heap.size → w1.cell? ⟨b, o, none⟩ = W.cell? ⟨b, o, none⟩) ∧ (∀ b o, b < W.heap.size → w1.frozen? ⟨b, o, none⟩ = W.frozen? ⟨b, o, none⟩) ∧ W.heap.size ≤ w1.heap.size :=
  ⟨fun b o h => Below.cell hb (p := ⟨b, o, none⟩) h, fun b o h => Below.frozen hb (p := ⟨b, o, none⟩) h, hb.size⟩

theorem le_alloc {B : Nat} {w : World} (h : B ≤ w.heap.size) (o : Obj) : B ≤ (w.alloc o).heap.size := by simp; omega

/-- A later world, in which what was there is there as it was. -/
structure GrW (w : World) where
  to : World
  gr : Gr w to
theorem GrW.of {w w' : World} (h : ∃ x : GrW w, w' = x.to) : Gr w w' := by obtain ⟨x, rfl⟩ := h; exact x.gr
instance (w : World) : Nonempty (GrW w) := ⟨⟨w, Gr.refl w⟩⟩
theorem GrW.cell {w : World} {b o : Nat} {v : Value} (h : w.cell? ⟨b, o, none⟩ = some v) : ∀ x : GrW w, x.to.cell? ⟨b, o, none⟩ = some v := by
  intro x
  have hb : b < w.heap.size := by
    unfold World.cell? at h
    split at h
    · rename_i hb; exact (Array.getElem?_eq_some_iff.1 hb).1
    · cases h
  rw [x.gr.cells.1 b o hb]; exact h
/-- A region that draws its order, whose operations read and whose callees at most make memory: one walk, in the order of the text. -/
theorem wp_region_grows {P : Program} {id : Nat} {Q : Exit → Act → World → Prop} {a : Act} {w : World} {l : List Oper} (hm : P.follows .mixedOrders = true) (hB : Region.lexB .any l.toArray = true)
    (h : wpQuiet P l.toArray (fun w' => ∃ x : GrW w, w' = x.to) (fun a' => ∀ w', (∃ x : GrW w, w' = x.to) → Q .normal a' w') l a) : (Code.region id l.toArray true).wp P Q a w :=
  wp_region_quiet (C := fun w' => ∃ x : GrW w, w' = x.to) hm hB ⟨⟨_, (Gr.refl w).drew⟩, rfl⟩ (by simpa using h)
theorem Calls.grows {P : Program} {f : FuncId} {args : Array Value} {w : World} {x : GrW w} {v : Value}
    (h : Calls P f args x.to fun e w' => e = .returned v ∧ Gr x.to w') : Calls P f args x.to fun e w'' => e = .returned v ∧ ∃ y : GrW w, w'' = y.to :=
  h.mono fun _ w'' ⟨he, hg⟩ => ⟨he, ⟨w'', x.gr.trans hg⟩, rfl⟩
theorem Calls.grows_same {P : Program} {f : FuncId} {args : Array Value} {w : World} {x : GrW w} {v : Value}
    (h : Calls P f args x.to fun e w' => e = .returned v ∧ x.to = w') : Calls P f args x.to fun e w'' => e = .returned v ∧ ∃ y : GrW w, w'' = y.to :=
  h.mono fun _ _ ⟨he, hg⟩ => ⟨he, x, hg.symm⟩

/-- In w there lies at a what reads as l, each item as enc says, k cells each. -/
def RecsAt {α : Type} (k : Nat) (enc : α → List Value) (w : World) (a : Option Addr) (l : List α) : Prop :=
  ∀ (i : Nat) (s : α), l[i]? = some s → ∃ b off, a = some ⟨b, off, none⟩ ∧ b < w.heap.size ∧ ∀ (j : Nat) (u : Value), (enc s)[j]? = some u → w.cell? ⟨b, off + i * k + j, none⟩ = some u

section
variable {α : Type} {k : Nat} {enc : α → List Value}

theorem flat_len (hk : ∀ s, (enc s).length = k) (l : List α) : (l.flatMap enc).length = l.length * k := by
  induction l with
  | nil => simp
  | cons s r ih => rw [List.flatMap_cons, List.length_append, ih, hk, List.length_cons, Nat.add_mul, Nat.one_mul, Nat.add_comm]

theorem flat_get (hk : ∀ s, (enc s).length = k) : ∀ (l : List α) (i : Nat) (s : α) (j : Nat) (u : Value), l[i]? = some s → (enc s)[j]? = some u → (l.flatMap enc)[i * k + j]? = some u := by
  intro l
  induction l with
  | nil => intro i s j u h; simp at h
  | cons x r ih =>
    intro i s j u h hu
    rw [List.flatMap_cons]
    cases i with
    | zero =>
      obtain rfl : x = s := by simpa using h
      have hj : j < (enc x).length := (List.getElem?_eq_some_iff.1 hu).1
      rw [Nat.zero_mul, Nat.zero_add, List.getElem?_append_left hj]
      exact hu
    | succ i =>
      have h' : r[i]? = some s := by simpa using h
      rw [List.getElem?_append_right (by rw [hk, Nat.add_mul]; omega), hk, show (i + 1) * k + j - k = i * k + j by rw [Nat.add_mul]; omega]
      exact ih i s j u h' hu

theorem flat_at (hk : ∀ s, (enc s).length = k) (hp : 0 < k) (l : List α) (m : Nat) (u : Value) (h : (l.flatMap enc)[m]? = some u) : ∃ s, l[m / k]? = some s ∧ (enc s)[m % k]? = some u := by
  have hm : m < l.length * k := by rw [← flat_len hk l]; exact (List.getElem?_eq_some_iff.1 h).1
  have hi : m / k < l.length := (Nat.div_lt_iff_lt_mul hp).2 hm
  have hs : l[m / k]? = some l[m / k] := List.getElem?_eq_getElem hi
  have hj : m % k < (enc l[m / k]).length := by rw [hk]; exact Nat.mod_lt _ hp
  refine ⟨_, hs, ?_⟩
  have hu : (enc l[m / k])[m % k]? = some (enc l[m / k])[m % k] := List.getElem?_eq_getElem hj
  have := flat_get hk l _ _ _ _ hs hu
  rw [Nat.mul_comm, Nat.div_add_mod] at this
  rw [hu, ← this, h]

theorem RecsAt.of_below {w w' : World} {B : Nat} {a : Option Addr} {l : List α} (h : RecsAt k enc w a l) (hb : ∀ x, a = some x → x.block < B) (g : Below B w w') : RecsAt k enc w' a l := by
  intro i s hi
  obtain ⟨b, off, ha, hlt, hc⟩ := h i s hi
  have hB := hb _ ha
  exact ⟨b, off, ha, Nat.lt_of_lt_of_le hlt g.size, fun j u hu => by rw [g.cell (p := ⟨b, off + i * k + j, none⟩) hB]; exact hc j u hu⟩

theorem recs_take {w : World} {a : Option Addr} {l : List α} (h : RecsAt k enc w a l) (n : Nat) : RecsAt k enc w a (l.take n) := by
  intro i s hi
  rw [List.getElem?_take] at hi
  split at hi
  · exact h i s hi
  · cases hi

theorem recs_of_owns {w : World} {base : Nat} {e : TypeId} {v : Value} {l : List α} (hk : ∀ s, (enc s).length = k) (h : w.ownsRow base e k v l.length (l.flatMap enc)) :
    ∃ a c, v = .slice a l.length c ∧ RecsAt k enc w a l ∧ (a = none → c = 0) ∧ ∀ x, a = some x → base ≤ x.block := by
  obtain ⟨_, h | ⟨g, cap, cur, hv, hg, hh, hn, _, hsz, htk⟩⟩ := h
  · obtain ⟨rfl, hn⟩ := h
    obtain rfl : l = [] := List.length_eq_zero_iff.1 hn
    exact ⟨none, 0, rfl, (fun i s hs => by simp at hs), (fun _ => rfl), (fun x hx => by cases hx)⟩
  · refine ⟨some ⟨g, 0, none⟩, cap, hv, fun i s hi => ⟨g, 0, rfl, (Array.getElem?_eq_some_iff.1 hh).1, fun j u hu => ?_⟩, (fun hx => by cases hx), fun x hx => by cases hx; exact hg⟩
    have h1 := flat_get hk l i s j u hi hu
    rw [← htk] at h1
    rw [List.getElem?_take] at h1
    split at h1
    · rw [World.cell?, hh]
      simpa using h1
    · cases h1

theorem gr_grown {B : Nat} {w0 w w' : World} {v : Value} (h : Below B w0 w) (hg : w.grownBy w' v.ownBlock) (hB : B ≤ w.heap.size) (hv : ∀ k, v.ownBlock = some k → B ≤ k) : Below B w0 w' := h.grown hg hB hv

/-- The block of an owned slice is the call's own. -/
theorem own_block {w : World} {base : Nat} {e : TypeId} {size : Nat} {v : Value} {n : Nat} {xs : List Value} (h : w.ownsRow base e size v n xs) : ∀ k, v.ownBlock = some k → base ≤ k := by
  intro k hk
  obtain ⟨_, h | ⟨g, cap, cur, hv, hg, _⟩⟩ := h
  · obtain ⟨rfl, _⟩ := h; simp [Value.ownBlock] at hk
  · subst hv; simp [Value.ownBlock] at hk; omega

/-- A slice literal reads as its items. -/
theorem recs_alloc (hk : ∀ s, (enc s).length = k) (w : World) (l : List α) (e : TypeId) (cs : Array Value) (h : cs.toList = l.flatMap enc) : RecsAt k enc (w.alloc (.cells cs e)) (some ⟨w.heap.size, 0, none⟩) l := by
  intro i s hi
  refine ⟨w.heap.size, 0, rfl, by simp, fun j u hu => ?_⟩
  have h1 := flat_get hk l i s j u hi hu
  rw [← h] at h1
  rw [World.cell?, heap_alloc_new w _, Nat.zero_add]
  simpa using h1

/-- append(own, src...): the source read as records. -/
theorem wpList_append_recs {P : Program} {w : World} {ops : Array Oper} {rest : List Oper} {o : Oper} {a : Act} {Q : Exit → Act → World → Prop} (hgd : o.guard = none) (s x : Operand) (t : TypeId)
    (ho : o.op = .call { callee := .builtin .append, args := #[s, x], argTypes := #[t, t] })
    (base : Nat) (e : TypeId) (i : TypeInfo) (z : Value) (bytes : Nat) (ht : P.underlying t = some (.slice e)) (hi : P.info? e = some i) (hz : i.zero = some z)
    (hsize : i.size = k) (hby : i.bytes = bytes) (hzs : z.cells.size = k) (hsz : 0 < k)
    (hk : ∀ s, (enc s).length = k) (h1 : ∀ s, ∀ u ∈ enc s, u.oneCell' = true)
    (v : Value) (l0 : List α) (hs : a.eval s = v) (hown : w.ownsRow base e k v l0.length (l0.flatMap enc))
    (sa : Option Addr) (c : Nat) (l : List α) (hx : a.eval x = .slice sa l.length c) (hl : RecsAt k enc w sa l) (hc : sa = none → c = 0)
    (h63 : l0.length + l.length ≤ maxLen) (hbytes : (l0.length + l.length) * bytes ≤ 140737488355328) (hbase : base ≤ w.heap.size)
    (h : ∀ v' w', w'.ownsRow base e k v' (l0 ++ l).length ((l0 ++ l).flatMap enc) → w.grownBy w' v.ownBlock → wpList P ops Q rest (a.put o.dst v') w') : wpList P ops Q (o :: rest) a w := by
  cases sa with
  | none =>
    obtain rfl := hc rfl
    obtain rfl : l = [] := by
      cases l with
      | nil => rfl
      | cons y r => obtain ⟨b, off, hh, _⟩ := hl 0 y rfl; cases hh
    refine wpList_append_own_none hgd s x t ho base e i k ht hi v l0.length (l0.flatMap enc) hs hown hx ?_
    exact h v w (by simpa using hown) ⟨rfl, rfl, rfl, Nat.le_refl _, fun _ _ _ => rfl⟩
  | some ad =>
    refine wpList_append_own w hgd s x t ho base e i z k bytes ht hi hz hsize hby hzs hsz v l0.length (l0.flatMap enc) hs hown ad l.length c (l.flatMap enc) hx (flat_len hk l) ?_ ?_ h63 hbytes hbase ?_
    · intro j u hj
      obtain ⟨y, hy, hu⟩ := flat_at hk hsz l j u hj
      obtain ⟨b, off, hh, _, hcell⟩ := hl _ y hy
      obtain rfl := Option.some.inj hh
      have := hcell _ u hu
      have e1 : off + j / k * k + j % k = off + j := by rw [Nat.add_assoc, Nat.mul_comm, Nat.div_add_mod]
      rw [e1] at this
      unfold Addr.add
      by_cases hj0 : j = 0
      · subst hj0; simpa using this
      · simpa [hj0] using this
    · intro u hu
      obtain ⟨y, _, hy⟩ := List.mem_flatMap.1 hu
      exact h1 y u hy
    · intro v' w' ho' hg' _
      exact h v' w' (by simpa using ho') hg'

/-- A slice literal of no items. -/
theorem owns_empty (w : World) (e : TypeId) (k : Nat) (o : Obj) (ho : o = .cells #[] e (0, 0)) (base : Nat) (hb : base ≤ w.heap.size) : (w.alloc o).ownsRow base e k (.slice (some ⟨w.heap.size, 0, none⟩) 0 0) ([] : List α).length (([] : List α).flatMap enc) := by
  subst ho
  refine ⟨by simp, .inr ⟨w.heap.size, 0, #[], rfl, hb, heap_alloc_new w _, Nat.le_refl _, Nat.zero_le _, by simp, by simp⟩⟩

/-- append([]T{}, src...): a copy of the source. -/
theorem wpList_copy_recs {P : Program} {w : World} {ops : Array Oper} {rest : List Oper} {o : Oper} {a : Act} {Q : Exit → Act → World → Prop} (hgd : o.guard = none) (s x : Operand) (t : TypeId)
    (ho : o.op = .call { callee := .builtin .append, args := #[s, x], argTypes := #[t, t] })
    (e : TypeId) (i : TypeInfo) (z : Value) (bytes : Nat) (ht : P.underlying t = some (.slice e)) (hi : P.info? e = some i) (hz : i.zero = some z)
    (hsize : i.size = k) (hby : i.bytes = bytes) (hzs : z.cells.size = k) (hsz : 0 < k)
    (hk : ∀ s, (enc s).length = k) (h1 : ∀ s, ∀ u ∈ enc s, u.oneCell' = true) (hs : a.eval s = .slice (some ⟨w.heap.size, 0, none⟩) 0 0)
    (sa : Option Addr) (c : Nat) (l : List α) (hx : a.eval x = .slice sa l.length c) (hl : RecsAt k enc w sa l) (hc : sa = none → c = 0)
    (h63 : l.length ≤ maxLen) (hbytes : l.length * bytes ≤ 140737488355328)
    (h : ∀ a' c' w', RecsAt k enc w' a' l → (a' = none → c' = 0) → (∀ x, a' = some x → w.heap.size ≤ x.block) → Gr w w' → wpList P ops Q rest (a.put o.dst (.slice a' l.length c')) w') : wpList P ops Q (o :: rest) a (w.alloc (.cells #[] e)) := by
  have hl' : RecsAt k enc (w.alloc (.cells #[] e)) sa l := by
    intro i s hi
    obtain ⟨b, off, ha, hb, hcl⟩ := hl i s hi
    exact ⟨b, off, ha, by simp; omega, fun j u hu => by rw [((Gr.refl w).alloc (.cells #[] e)).cells.1 _ _ hb]; exact hcl j u hu⟩
  refine wpList_append_recs (k := k) (enc := enc) hgd s x t ho w.heap.size e i z bytes ht hi hz hsize hby hzs hsz hk h1 (.slice (some ⟨w.heap.size, 0, none⟩) 0 0) [] hs (owns_empty w e k _ rfl _ (Nat.le_refl _)) sa c l hx hl' hc (by simpa using h63) (by simpa using hbytes) (by simp) ?_
  intro v' w' hown hgr
  obtain ⟨a', c', hv, hr, hn, hB⟩ := recs_of_owns (l := [] ++ l) hk hown
  rw [hv]
  exact h a' c' w' hr hn hB (((Gr.refl w).alloc _).grown hgr (by simp [Value.ownBlock]))
end
end Go.Proofs.YtglfdnfojpdkjaaGreatDoor
/- append([]T{}, src...): a copy of the source. Nothing of the program is named here. -/
namespace Go.Proofs.YtglfdnfojpdkjaaGreatDoor
open Go.RowKit

section
variable {α : Type} {k : Nat} {enc : α → List Value}
/-- append([]T{}, src...): a copy of the source, which the call owns. -/
theorem wpList_copyN {P : Program} {w : World} {ops : Array Oper} {rest : List Oper} {o : Oper} {a : Act} {Q : Exit → Act → World → Prop} (hgd : o.guard = none) (s x : Operand) (t : TypeId)
    (ho : o.op = .call { callee := .builtin .append, args := #[s, x], argTypes := #[t, t] })
    (e : TypeId) (i : TypeInfo) (z : Value) (bytes : Nat) (ht : P.underlying t = some (.slice e)) (hi : P.info? e = some i) (hz : i.zero = some z)
    (hsize : i.size = k) (hby : i.bytes = bytes) (hzs : z.cells.size = k) (hsz : 0 < k)
    (hk : ∀ s, (enc s).length = k) (h1 : ∀ s, ∀ u ∈ enc s, u.oneCell' = true) (N : Nat) (hN : w.heap.size = N) (hs : a.eval s = .slice (some ⟨N, 0, none⟩) 0 0)
    (sa : Option Addr) (c : Nat) (l : List α) (hx : a.eval x = .slice sa l.length c) (hl : RecsAt k enc w sa l) (hc : sa = none → c = 0)
    (h63 : l.length ≤ maxLen) (hbytes : l.length * bytes ≤ 140737488355328)
    (h : ∀ v' w', w'.ownsRow w.heap.size e k v' l.length (l.flatMap enc) → Gr w w' → wpList P ops Q rest (a.put o.dst v') w') : wpList P ops Q (o :: rest) a (w.alloc (.cells #[] e)) := by
  subst hN
  have hl' : RecsAt k enc (w.alloc (.cells #[] e)) sa l := by
    intro i s hi
    obtain ⟨b, off, ha, hb, hcl⟩ := hl i s hi
    exact ⟨b, off, ha, by simp; omega, fun j u hu => by rw [((Gr.refl w).alloc (.cells #[] e)).cells.1 _ _ hb]; exact hcl j u hu⟩
  refine wpList_append_recs (k := k) (enc := enc) hgd s x t ho w.heap.size e i z bytes ht hi hz hsize hby hzs hsz hk h1 (.slice (some ⟨w.heap.size, 0, none⟩) 0 0) [] hs (owns_empty w e k _ rfl _ (Nat.le_refl _)) sa c l hx hl' hc (by simpa using h63) (by simpa using hbytes) (by simp) ?_
  intro v' w' hown hgr
  exact h v' w' hown (((Gr.refl w).alloc _).grown hgr (by simp [Value.ownBlock]))

end
end Go.Proofs.YtglfdnfojpdkjaaGreatDoor
/- The sentinels; lists of servers and tasks in memory. -/
namespace Go.Proofs.YtglfdnfojpdkjaaGreatDoor
open Go.RowKit

/-- The value of sentinel number g. -/
abbrev errAt (E : Nat → Addr) (g : Nat) : Value := .iface 258 (.pointer (some (E g)))

/-- The sentinels' variables (those of the list G) hold what their initialisers laid. -/
structure EAt (G : List Nat) (E : Nat → Addr) (w : World) : Prop where
  lt : ∀ g, g ∈ G → g < w.heap.size
  at_lt : ∀ g, g ∈ G → (E g).block < w.heap.size
  cell : ∀ g, g ∈ G → w.cell? ⟨g, 0, none⟩ = some (errAt E g)
  row : ∀ g, g ∈ G → ∃ c t, w.heap[(E g).block]? = some (.cells c t (0, 0))
  ne : ∀ g k, g ∈ G → k ∈ G → g ≠ k → E g ≠ E k

theorem EAt.gr {G : List Nat} {E : Nat → Addr} {w w' : World} (h : EAt G E w) (g : Gr w w') : EAt G E w' where
  lt k hk := Nat.lt_of_lt_of_le (h.lt k hk) g.size
  at_lt k hk := Nat.lt_of_lt_of_le (h.at_lt k hk) g.size
  cell k hk := by rw [g.cells.1 k 0 (h.lt k hk)]; exact h.cell k hk
  row k hk := by obtain ⟨c, t, e⟩ := h.row k hk; exact ⟨c, t, by rw [Below.block g _ (h.at_lt k hk)]; exact e⟩
  ne := h.ne
theorem EAt.c0 {G : List Nat} {E : Nat → Addr} {w : World} (h : EAt G E w) {g : Nat} (hg : g ∈ G) : w.cell? ⟨g, 0, none⟩ = some (.iface 258 (.pointer (some (E g)))) := h.cell g hg

theorem Tryz.errComp : (Tryz.prog.info? 258).map (·.comparable) = some true := by kernel_rfl
theorem Tryz.errSize : (Tryz.prog.info? 275).map (·.size) = some 1 := by kernel_rfl
theorem eql_same (E : Nat → Addr) (g : Nat) (w : World) : (binOp .eql 55 (.iface 258 (.pointer (some (E g)))) (.iface 258 (.pointer (some (E g))))).run Tryz.prog w = .ok (.bool true) w := by
  obtain ⟨i, hi, hc⟩ := Option.map_eq_some_iff.1 Tryz.errComp
  obtain ⟨j, hj, hs⟩ := Option.map_eq_some_iff.1 Tryz.errSize
  exact run_eql_iface_ptr_same w (E g) Tryz.underlying55 Tryz.underlying258 hi hc hj
theorem eql_other {G : List Nat} {E : Nat → Addr} {w : World} (h : EAt G E w) {g k : Nat} (hg : g ∈ G) (hk : k ∈ G) (hn : g ≠ k) : (binOp .eql 55 (.iface 258 (.pointer (some (E g)))) (.iface 258 (.pointer (some (E k))))).run Tryz.prog w = .ok (.bool false) w := by
  obtain ⟨i, hi, hc⟩ := Option.map_eq_some_iff.1 Tryz.errComp
  obtain ⟨j, hj, hs⟩ := Option.map_eq_some_iff.1 Tryz.errSize
  obtain ⟨c, t, e⟩ := h.row g hg
  obtain ⟨c', t', e'⟩ := h.row k hk
  exact run_eql_iface_ptr_other w Tryz.underlying55 Tryz.underlying258 hi hc hj (by rw [hs]; decide) (h.ne g k hg hk hn) e e'

/-- A server, a task. -/
structure Srv where
  k : Int
  q : Int
  t : Int
structure Tsk where
  c : Int
  p : Int
  d : Int
  s : Int
instance : Inhabited Srv := ⟨⟨0, 0, 0⟩⟩
instance : Inhabited Tsk := ⟨⟨0, 0, 0, 0⟩⟩

def Srv.leg (s : Srv) : Bool := decide (1 ≤ s.k ∧ s.k ≤ 3 ∧ 1 ≤ s.q ∧ s.q ≤ s.t ∧ s.t ≤ 256)
def Tsk.leg (t : Tsk) : Bool := decide (1 ≤ t.c ∧ t.c ≤ t.d ∧ t.d ≤ t.p ∧ t.p ≤ 256 ∧ 0 ≤ t.s ∧ t.s ≤ t.c)
theorem Srv.leg_iff (s : Srv) : s.leg = true ↔ (1 ≤ s.k ∧ s.k ≤ 3 ∧ 1 ≤ s.q ∧ s.q ≤ s.t ∧ s.t ≤ 256) := by unfold Srv.leg; exact decide_eq_true_iff
theorem Tsk.leg_iff (t : Tsk) : t.leg = true ↔ (1 ≤ t.c ∧ t.c ≤ t.d ∧ t.d ≤ t.p ∧ t.p ≤ 256 ∧ 0 ≤ t.s ∧ t.s ≤ t.c) := by unfold Tsk.leg; exact decide_eq_true_iff

/-- In w there lies at a what reads as l. -/
def SrvsAt (w : World) (a : Option Addr) (l : List Srv) : Prop :=
  ∀ (i : Nat) (s : Srv), l[i]? = some s → ∃ b off, a = some ⟨b, off, none⟩ ∧ b < w.heap.size ∧ w.cell? ⟨b, off + i * 3, none⟩ = some (.int .i64 s.k) ∧ w.cell? ⟨b, off + i * 3 + 1, none⟩ = some (.int .i64 s.q) ∧ w.cell? ⟨b, off + i * 3 + 2, none⟩ = some (.int .i64 s.t)
def TsksAt (w : World) (a : Option Addr) (l : List Tsk) : Prop :=
  ∀ (i : Nat) (s : Tsk), l[i]? = some s → ∃ b off, a = some ⟨b, off, none⟩ ∧ b < w.heap.size ∧ w.cell? ⟨b, off + i * 4, none⟩ = some (.int .i64 s.c) ∧ w.cell? ⟨b, off + i * 4 + 1, none⟩ = some (.int .i64 s.p) ∧ w.cell? ⟨b, off + i * 4 + 2, none⟩ = some (.int .i64 s.d) ∧ w.cell? ⟨b, off + i * 4 + 3, none⟩ = some (.int .i64 s.s)
theorem SrvsAt.gr {w w' : World} {a : Option Addr} {l : List Srv} (h : SrvsAt w a l) (g : Gr w w') : SrvsAt w' a l := by
  intro i s hi
  obtain ⟨b, off, ha, hb, h0, h1, h2⟩ := h i s hi
  have hc := g.cells.1
  exact ⟨b, off, ha, Nat.lt_of_lt_of_le hb g.size, by rw [hc _ _ hb]; exact h0, by rw [hc _ _ hb]; exact h1, by rw [hc _ _ hb]; exact h2⟩
theorem TsksAt.gr {w w' : World} {a : Option Addr} {l : List Tsk} (h : TsksAt w a l) (g : Gr w w') : TsksAt w' a l := by
  intro i s hi
  obtain ⟨b, off, ha, hb, h0, h1, h2, h3⟩ := h i s hi
  have hc := g.cells.1
  exact ⟨b, off, ha, Nat.lt_of_lt_of_le hb g.size, by rw [hc _ _ hb]; exact h0, by rw [hc _ _ hb]; exact h1, by rw [hc _ _ hb]; exact h2, by rw [hc _ _ hb]; exact h3⟩
theorem get_some {α : Type} (l : List α) (i : Nat) (h : i < l.length) : ∃ s, l[i]? = some s := ⟨l[i], by simp [h]⟩
theorem take_snoc {α : Type} {l : List α} {i : Nat} {s : α} (h : l[i]? = some s) : l.take (i + 1) = l.take i ++ [s] := by
  rw [List.take_add_one, h]; rfl
theorem get_lt {α : Type} {l : List α} {i : Nat} {s : α} (h : l[i]? = some s) : i < l.length := by
  have := List.getElem?_eq_some_iff.1 h; exact this.1
theorem get_mem {α : Type} {l : List α} {i : Nat} {s : α} (h : l[i]? = some s) : s ∈ l := List.mem_of_getElem? h

abbrev Srv.cells (s : Srv) : List Value := [.int .i64 s.k, .int .i64 s.q, .int .i64 s.t]
abbrev Tsk.cells (s : Tsk) : List Value := [.int .i64 s.c, .int .i64 s.p, .int .i64 s.d, .int .i64 s.s]
theorem srvs_recs {w : World} {a : Option Addr} {l : List Srv} (h : SrvsAt w a l) : RecsAt 3 Srv.cells w a l := by
  intro i s hi
  obtain ⟨b, off, ha, hb, h0, h1, h2⟩ := h i s hi
  refine ⟨b, off, ha, hb, fun j u hu => ?_⟩
  match j, hu with
  | 0, hu => obtain rfl := Option.some.inj hu; exact h0
  | 1, hu => obtain rfl := Option.some.inj hu; exact h1
  | 2, hu => obtain rfl := Option.some.inj hu; exact h2
theorem recs_srvs {w : World} {a : Option Addr} {l : List Srv} (h : RecsAt 3 Srv.cells w a l) : SrvsAt w a l := by
  intro i s hi
  obtain ⟨b, off, ha, hb, hc⟩ := h i s hi
  exact ⟨b, off, ha, hb, hc 0 _ rfl, hc 1 _ rfl, hc 2 _ rfl⟩
theorem tsks_recs {w : World} {a : Option Addr} {l : List Tsk} (h : TsksAt w a l) : RecsAt 4 Tsk.cells w a l := by
  intro i s hi
  obtain ⟨b, off, ha, hb, h0, h1, h2, h3⟩ := h i s hi
  refine ⟨b, off, ha, hb, fun j u hu => ?_⟩
  match j, hu with
  | 0, hu => obtain rfl := Option.some.inj hu; exact h0
  | 1, hu => obtain rfl := Option.some.inj hu; exact h1
  | 2, hu => obtain rfl := Option.some.inj hu; exact h2
  | 3, hu => obtain rfl := Option.some.inj hu; exact h3
theorem recs_tsks {w : World} {a : Option Addr} {l : List Tsk} (h : RecsAt 4 Tsk.cells w a l) : TsksAt w a l := by
  intro i s hi
  obtain ⟨b, off, ha, hb, hc⟩ := h i s hi
  exact ⟨b, off, ha, hb, hc 0 _ rfl, hc 1 _ rfl, hc 2 _ rfl, hc 3 _ rfl⟩
theorem Srv.cells_len (s : Srv) : s.cells.length = 3 := rfl
theorem Tsk.cells_len (s : Tsk) : s.cells.length = 4 := rfl
theorem Srv.cells_one (s : Srv) : ∀ u ∈ s.cells, u.oneCell' = true := by intro u hu; simp at hu; rcases hu with rfl | rfl | rfl <;> rfl
theorem Tsk.cells_one (s : Tsk) : ∀ u ∈ s.cells, u.oneCell' = true := by intro u hu; simp at hu; rcases hu with rfl | rfl | rfl | rfl <;> rfl
theorem Tryz.infoSrv : (Tryz.prog.info? 24).map (fun i => (i.zero, i.size, i.bytes)) = some (some (.agg #[.int .i64 0, .int .i64 0, .int .i64 0]), 3, 24) := by kernel_rfl
theorem Tryz.infoTsk : (Tryz.prog.info? 115).map (fun i => (i.zero, i.size, i.bytes)) = some (some (.agg #[.int .i64 0, .int .i64 0, .int .i64 0, .int .i64 0]), 4, 32) := by kernel_rfl

theorem size_drewN (w : World) (n : Nat) : (w.drewN n).heap.size = w.heap.size := rfl
theorem ret2 {k : IntKind} {a b a' b' : Int} (h1 : a = a') (h2 : b = b') : Ending.returned (.tuple #[.int k a, .int k b]) = .returned (.tuple #[.int k a', .int k b']) := by rw [h1, h2]
theorem ret1 {k : IntKind} {a b : Int} (h : a = b) : Ending.returned (.int k a) = .returned (.int k b) := by rw [h]
theorem retb {a b : Bool} (h : a = b) : Ending.returned (.bool a) = .returned (.bool b) := by rw [h]
end Go.Proofs.YtglfdnfojpdkjaaGreatDoor
/- Blocks known whole; a world in which some blocks may have turned; lists of entries in memory. -/
namespace Go.Proofs.YtglfdnfojpdkjaaGreatDoor
open Go.RowKit

/-- Block b is the row cs. -/
def Blk (w : World) (b : Nat) (cs : Array Value) (t : TypeId) : Prop := w.heap[b]? = some (.cells cs t (0, 0))
theorem Blk.cell {w : World} {b : Nat} {cs : Array Value} {t : TypeId} (h : Blk w b cs t) {i : Nat} {v : Value} (hv : cs[i]? = some v) : w.cell? ⟨b, i, none⟩ = some v := by rw [cell_of_row w b i cs t (0, 0) h, hv]
theorem Blk.free {w : World} {b : Nat} {cs : Array Value} {t : TypeId} (h : Blk w b cs t) (i : Nat) : w.frozen? ⟨b, i, none⟩ = false := frozen_of_row w b i cs t h
theorem Blk.lt {w : World} {b : Nat} {cs : Array Value} {t : TypeId} (h : Blk w b cs t) : b < w.heap.size := (Array.getElem?_eq_some_iff.1 h).1
theorem Blk.new (w : World) (cs : Array Value) (t : TypeId) : Blk (w.alloc (.cells cs t)) w.heap.size cs t := heap_alloc_new w _
theorem Blk.alloc {w : World} {b : Nat} {cs : Array Value} {t : TypeId} (h : Blk w b cs t) (o : Obj) : Blk (w.alloc o) b cs t := by unfold Blk; rw [heap_alloc_old w o h.lt]; exact h
theorem Blk.drew {w : World} {b : Nat} {cs : Array Value} {t : TypeId} (h : Blk w b cs t) : Blk w.drew b cs t := h
theorem Blk.drewN {w : World} {b : Nat} {cs : Array Value} {t : TypeId} (h : Blk w b cs t) (n : Nat) : Blk (w.drewN n) b cs t := h
theorem Blk.set {w : World} {b : Nat} {cs : Array Value} {t : TypeId} (h : Blk w b cs t) (i : Nat) (v : Value) : Blk (w.setCell ⟨b, i, none⟩ v) b (cs.setIfInBounds i v) t := heap_setCell_same w b i cs t v h
theorem Blk.other {w : World} {b : Nat} {cs : Array Value} {t : TypeId} (h : Blk w b cs t) {a : Addr} (ha : b ≠ a.block) (v : Value) : Blk (w.setCell a v) b cs t := by unfold Blk; rw [heap_setCell_other w a b v ha]; exact h
theorem Blk.gr {w w' : World} {b : Nat} {cs : Array Value} {t : TypeId} (h : Blk w b cs t) (g : Gr w w') : Blk w' b cs t := by unfold Blk; rw [g.block b h.lt]; exact h

/-- What was there is there as it was, but for the blocks of S. -/
structure GrX (S : List Nat) (w w' : World) : Prop where
  os : w'.os = w.os
  tape : w'.tape = w.tape
  output : w'.output = w.output
  size : w.heap.size ≤ w'.heap.size
  block : ∀ k, k < w.heap.size → k ∉ S → w'.heap[k]? = w.heap[k]?
theorem Gr.x {w w' : World} (g : Gr w w') (S : List Nat) : GrX S w w' := ⟨g.os, g.tape, g.output, g.size, fun k hk _ => g.block k hk⟩
theorem GrX.refl (S : List Nat) (w : World) : GrX S w w := (Gr.refl w).x S
theorem GrX.trans {S : List Nat} {a b c : World} (h : GrX S a b) (g : GrX S b c) : GrX S a c :=
  ⟨g.os.trans h.os, g.tape.trans h.tape, g.output.trans h.output, Nat.le_trans h.size g.size, fun k hk hn => (g.block k (Nat.lt_of_lt_of_le hk h.size) hn).trans (h.block k hk hn)⟩
theorem GrX.mono {S T : List Nat} {a b : World} (h : GrX S a b) (hs : ∀ x, x ∈ S → x ∈ T) : GrX T a b := ⟨h.os, h.tape, h.output, h.size, fun k hk hn => h.block k hk (fun hx => hn (hs k hx))⟩
theorem GrX.gr {S : List Nat} {a b c : World} (h : GrX S a b) (g : Gr b c) : GrX S a c := h.trans (g.x S)
theorem GrX.set {S : List Nat} {a b : World} (h : GrX S a b) {p : Addr} (hp : p.block ∈ S ∨ a.heap.size ≤ p.block) (v : Value) : GrX S a (b.setCell p v) :=
  ⟨h.os, h.tape, h.output, by simp; exact h.size, fun k hk hn => by
    rw [heap_setCell_other b p k v (fun e => by rcases hp with hp | hp; exact hn (e ▸ hp); omega)]
    exact h.block k hk hn⟩
theorem GrX.alloc {S : List Nat} {a b : World} (h : GrX S a b) (o : Obj) : GrX S a (b.alloc o) := h.gr ((Gr.refl b).alloc o)
theorem GrX.drew {S : List Nat} {a b : World} (h : GrX S a b) : GrX S a b.drew := h.gr ((Gr.refl b).drew)
theorem GrX.drewN {S : List Nat} {a b : World} (h : GrX S a b) (n : Nat) : GrX S a (b.drewN n) := h.gr ((Gr.refl b).drewN n)
/-- What turned was not there when all began. -/
theorem GrX.all {S : List Nat} {w a b : World} (g : Gr w a) (h : GrX S a b) (hS : ∀ x, x ∈ S → w.heap.size ≤ x) : Gr w b :=
  ⟨h.os.trans g.os, h.tape.trans g.tape, h.output.trans g.output, Nat.le_trans g.size h.size, fun k hk => by
    rw [h.block k (Nat.lt_of_lt_of_le hk g.size) (fun hx => by have := hS k hx; omega)]
    exact g.block k hk⟩
theorem Blk.grx {S : List Nat} {w w' : World} {b : Nat} {cs : Array Value} {t : TypeId} (h : Blk w b cs t) (g : GrX S w w') (hn : b ∉ S) : Blk w' b cs t := by unfold Blk; rw [g.block b h.lt hn]; exact h
theorem GrX.cell {S : List Nat} {w w' : World} (g : GrX S w w') {b : Nat} (hb : b < w.heap.size) (hn : b ∉ S) (o : Nat) : w'.cell? ⟨b, o, none⟩ = w.cell? ⟨b, o, none⟩ := World.cell?_of_block (g.block b hb hn)
theorem GrX.frozen {S : List Nat} {w w' : World} (g : GrX S w w') {b : Nat} (hb : b < w.heap.size) (hn : b ∉ S) (o : Nat) : w'.frozen? ⟨b, o, none⟩ = w.frozen? ⟨b, o, none⟩ := World.frozen?_of_block (g.block b hb hn)

/-- Records that lie in blocks of which K holds. -/
def RecsIn {α : Type} (K : Nat → Prop) (k : Nat) (enc : α → List Value) (w : World) (a : Option Addr) (l : List α) : Prop := RecsAt k enc w a l ∧ ∀ x, a = some x → l ≠ [] → K x.block
theorem RecsIn.grx {α : Type} {K : Nat → Prop} {T : List Nat} {k : Nat} {enc : α → List Value} {w w' : World} {a : Option Addr} {l : List α} (h : RecsIn K k enc w a l) (g : GrX T w w') (hT : ∀ x, x ∈ T → ¬ K x) : RecsIn K k enc w' a l := by
  refine ⟨fun i s hi => ?_, h.2⟩
  obtain ⟨b, off, ha, hb, hc⟩ := h.1 i s hi
  have hn : K b := h.2 _ ha (fun e => by rw [e] at hi; cases hi)
  refine ⟨b, off, ha, Nat.lt_of_lt_of_le hb g.size, fun j u hu => ?_⟩
  rw [g.cell hb (fun hx => hT b hx hn)]
  exact hc j u hu
theorem RecsIn.mono {α : Type} {K K' : Nat → Prop} {k : Nat} {enc : α → List Value} {w : World} {a : Option Addr} {l : List α} (h : RecsIn K k enc w a l) (hk : ∀ b, b < w.heap.size → K b → K' b) : RecsIn K' k enc w a l := by
  refine ⟨h.1, fun x hx hl => ?_⟩
  cases l with
  | nil => exact absurd rfl hl
  | cons s r =>
    obtain ⟨b, off, ha, hb, _⟩ := h.1 0 s rfl
    rw [hx] at ha
    cases ha
    exact hk _ hb (h.2 _ hx hl)
theorem RecsIn.nil {α : Type} (K : Nat → Prop) (k : Nat) (enc : α → List Value) (w : World) (a : Option Addr) : RecsIn K k enc w a [] := ⟨fun i s h => by simp at h, fun _ _ h => absurd rfl h⟩
abbrev Any : Nat → Prop := fun _ => True

theorem RecsAt.lt {α : Type} {k : Nat} {enc : α → List Value} {w : World} {a : Option Addr} {l : List α} (h : RecsAt k enc w a l) {x : Addr} (ha : a = some x) (hl : l ≠ []) : x.block < w.heap.size := by
  cases l with
  | nil => exact absurd rfl hl
  | cons s r =>
    obtain ⟨b, off, ha', hb, _⟩ := h 0 s rfl
    rw [ha] at ha'
    cases ha'
    exact hb
theorem RecsAt.grown {α : Type} {k : Nat} {enc : α → List Value} {w w' : World} {a : Option Addr} {l : List α} {row : Option Nat} (h : RecsAt k enc w a l) (hg : w.grownBy w' row) (hne : ∀ x, a = some x → l ≠ [] → row ≠ some x.block) : RecsAt k enc w' a l := by
  intro i s hi
  obtain ⟨b, off, ha, hb, hc⟩ := h i s hi
  have hn := hne _ ha (fun e => by rw [e] at hi; cases hi)
  refine ⟨b, off, ha, Nat.lt_of_lt_of_le hb hg.size, fun j u hu => ?_⟩
  rw [World.cell?_of_block (hg.block b hb (fun e => hn e.symm))]
  exact hc j u hu
theorem owns_gr {w w' : World} {base : Nat} {e : TypeId} {size : Nat} {v : Value} {n : Nat} {xs : List Value} (h : w.ownsRow base e size v n xs) (g : Gr w w') : w'.ownsRow base e size v n xs := by
  refine ⟨h.1, ?_⟩
  rcases h.2 with hn | ⟨b, cap, cur, h1, h2, h3, h4⟩
  · exact .inl hn
  · exact .inr ⟨b, cap, cur, h1, h2, by rw [Below.block g _ (Array.getElem?_eq_some_iff.1 h3).1]; exact h3, h4⟩
theorem owns_lt {w : World} {base : Nat} {e : TypeId} {size : Nat} {v : Value} {n : Nat} {xs : List Value} (h : w.ownsRow base e size v n xs) : ∀ g, v.ownBlock = some g → g < w.heap.size ∧ base ≤ g := fun g hg => ⟨(h.lt g hg).2, (h.lt g hg).1⟩

/-- append(own, x): one record more; where the slice lies. -/
theorem wpList_append_one {α : Type} {k : Nat} {enc : α → List Value} {P : Program} {w : World} {ops : Array Oper} {rest : List Oper} {o : Oper} {a : Act} {Q : Exit → Act → World → Prop} (hgd : o.guard = none) (s x : Operand) (t : TypeId)
    (ho : o.op = .call { callee := .builtin .append, args := #[s, x], argTypes := #[t, t] })
    (base : Nat) (e : TypeId) (i : TypeInfo) (z : Value) (bytes : Nat) (ht : P.underlying t = some (.slice e)) (hi : P.info? e = some i) (hz : i.zero = some z)
    (hsize : i.size = k) (hby : i.bytes = bytes) (hzs : z.cells.size = k) (hsz : 0 < k)
    (hk : ∀ s, (enc s).length = k) (h1 : ∀ s, ∀ u ∈ enc s, u.oneCell' = true)
    (v : Value) (l0 : List α) (hs : a.eval s = v) (hown : w.ownsRow base e k v l0.length (l0.flatMap enc))
    (B c : Nat) (y : α) (hx : a.eval x = .slice (some ⟨B, 0, none⟩) 1 c) (hl : RecsAt k enc w (some ⟨B, 0, none⟩) [y])
    (h63 : l0.length + 1 ≤ maxLen) (hbytes : (l0.length + 1) * bytes ≤ 140737488355328) (hbase : base ≤ w.heap.size)
    (h : ∀ v' w', w'.ownsRow base e k v' (l0 ++ [y]).length ((l0 ++ [y]).flatMap enc) → w.grownBy w' v.ownBlock → (v'.ownBlock = v.ownBlock ∨ v'.ownBlock = some w.heap.size) → wpList P ops Q rest (a.put o.dst v') w') : wpList P ops Q (o :: rest) a w := by
  refine wpList_append_own_at w hgd s x t ho base e i z k bytes ht hi hz hsize hby hzs hsz v l0.length (l0.flatMap enc) hs hown ⟨B, 0, none⟩ 1 c (enc y) hx (by rw [hk, Nat.one_mul]) ?_ (h1 y) h63 hbytes hbase ?_
  · intro j u hu
    obtain ⟨b, off, ha, _, hc⟩ := hl 0 y rfl
    cases ha
    have := hc j u hu
    unfold Addr.add
    split
    · rename_i h0; rw [h0] at this; simpa using this
    · simpa using this
  · intro v' w' h2 h3 _ h5
    exact h v' w' (by simpa using h2) h3 h5

/-- An entry of the ledger. -/
structure Ent where
  cl : Int
  nu : Int
  kd : Int
  id : Int
  srv : Srv
  po : Int
  tasks : List Tsk
  at_ : Int
abbrev Ent.cells (e : Ent) (a : Option Addr) (c : Nat) : List Value :=
  [.int .i64 e.cl, .int .i64 e.nu, .int .i64 e.kd, .int .i64 e.id, .int .i64 e.srv.k, .int .i64 e.srv.q, .int .i64 e.srv.t, .int .i64 e.po, .slice a e.tasks.length c, .int .i64 e.at_]
/-- An entry as it lies: the entry, its tasks' place. -/
structure EntM where
  e : Ent
  a : Option Addr
  c : Nat
abbrev EntM.cells (x : EntM) : List Value := x.e.cells x.a x.c
theorem EntM.cells_len (x : EntM) : x.cells.length = 10 := rfl
theorem EntM.cells_one (x : EntM) : ∀ u ∈ x.cells, u.oneCell' = true := by
  intro u hu
  simp at hu
  rcases hu with rfl | rfl | rfl | rfl | rfl | rfl | rfl | rfl | rfl | rfl <;> rfl
/-- Its tasks lie where it says, in blocks of which K holds. -/
def EntM.ok (K : Nat → Prop) (w : World) (x : EntM) : Prop := RecsIn K 4 Tsk.cells w x.a x.e.tasks ∧ (x.a = none → x.c = 0) ∧ x.e.tasks.length ≤ x.c ∧ x.c ≤ maxLen ∧ x.e.tasks.length * 32 ≤ 140737488351232
theorem EntM.ok.grx {K : Nat → Prop} {T : List Nat} {w w' : World} {x : EntM} (h : x.ok K w) (g : GrX T w w') (hT : ∀ y, y ∈ T → ¬ K y) : x.ok K w' := ⟨h.1.grx g hT, h.2⟩
theorem EntM.ok.mono {K K' : Nat → Prop} {w : World} {x : EntM} (h : x.ok K w) (hk : ∀ b, b < w.heap.size → K b → K' b) : x.ok K' w := ⟨h.1.mono hk, h.2⟩
theorem EntM.ok.grown {K : Nat → Prop} {w w' : World} {x : EntM} {row : Option Nat} (h : x.ok K w) (hg : w.grownBy w' row) (hne : ∀ ad, x.a = some ad → x.e.tasks ≠ [] → row ≠ some ad.block) : x.ok K w' := ⟨⟨h.1.1.grown hg hne, h.1.2⟩, h.2⟩
/-- A ledger in memory, in blocks of which K holds. -/
def LedM (K : Nat → Prop) (w : World) (a : Option Addr) (L : List EntM) : Prop := RecsIn K 10 EntM.cells w a L ∧ ∀ x ∈ L, x.ok K w
theorem LedM.grx {K : Nat → Prop} {T : List Nat} {w w' : World} {a : Option Addr} {L : List EntM} (h : LedM K w a L) (g : GrX T w w') (hT : ∀ y, y ∈ T → ¬ K y) : LedM K w' a L :=
  ⟨h.1.grx g hT, fun x hx => (h.2 x hx).grx g hT⟩
theorem LedM.mono {K K' : Nat → Prop} {w : World} {a : Option Addr} {L : List EntM} (h : LedM K w a L) (hk : ∀ b, b < w.heap.size → K b → K' b) : LedM K' w a L := ⟨h.1.mono hk, fun x hx => (h.2 x hx).mono hk⟩
theorem LedM.nil (K : Nat → Prop) (w : World) (a : Option Addr) : LedM K w a [] := ⟨RecsIn.nil _ _ _ _ _, fun _ h => by cases h⟩
theorem LedM.gr {K : Nat → Prop} {w w' : World} {a : Option Addr} {L : List EntM} (h : LedM K w a L) (g : Gr w w') : LedM K w' a L := h.grx (T := []) (g.x []) (fun _ h => by cases h)
theorem EntM.ok.gr {K : Nat → Prop} {w w' : World} {x : EntM} (h : x.ok K w) (g : Gr w w') : x.ok K w' := h.grx (T := []) (g.x []) (fun _ h => by cases h)
/-- The cells of an entry of a ledger. -/
theorem LedM.get {K : Nat → Prop} {w : World} {a : Option Addr} {L : List EntM} (h : LedM K w a L) {i : Nat} {x : EntM} (hx : L[i]? = some x) :
    ∃ b off, a = some ⟨b, off, none⟩ ∧ b < w.heap.size ∧ K b ∧ w.cell? ⟨b, off + i * 10, none⟩ = some (.int .i64 x.e.cl) ∧ w.cell? ⟨b, off + i * 10 + 1, none⟩ = some (.int .i64 x.e.nu) ∧ w.cell? ⟨b, off + i * 10 + 2, none⟩ = some (.int .i64 x.e.kd) ∧ w.cell? ⟨b, off + i * 10 + 3, none⟩ = some (.int .i64 x.e.id) ∧
      w.cell? ⟨b, off + i * 10 + 4, none⟩ = some (.int .i64 x.e.srv.k) ∧ w.cell? ⟨b, off + i * 10 + 5, none⟩ = some (.int .i64 x.e.srv.q) ∧ w.cell? ⟨b, off + i * 10 + 6, none⟩ = some (.int .i64 x.e.srv.t) ∧ w.cell? ⟨b, off + i * 10 + 7, none⟩ = some (.int .i64 x.e.po) ∧
      w.cell? ⟨b, off + i * 10 + 8, none⟩ = some (.slice x.a x.e.tasks.length x.c) ∧ w.cell? ⟨b, off + i * 10 + 9, none⟩ = some (.int .i64 x.e.at_) := by
  obtain ⟨b, off, ha, hb, hc⟩ := h.1.1 i x hx
  exact ⟨b, off, ha, hb, h.1.2 _ ha (fun e => by rw [e] at hx; cases hx), hc 0 _ rfl, hc 1 _ rfl, hc 2 _ rfl, hc 3 _ rfl, hc 4 _ rfl, hc 5 _ rfl, hc 6 _ rfl, hc 7 _ rfl, hc 8 _ rfl, hc 9 _ rfl⟩

/-- A ballot. -/
structure Bal where
  r : Int
  n : Int
def aboveB (a b : Bal) : Bool := decide (b.r < a.r ∨ a.r = b.r ∧ b.n < a.n)
def balB (b : Bal) : Bool := decide (1 ≤ b.r ∧ b.r ≤ 1099511627776 ∧ 0 ≤ b.n ∧ b.n ≤ 6)
end Go.Proofs.YtglfdnfojpdkjaaGreatDoor
