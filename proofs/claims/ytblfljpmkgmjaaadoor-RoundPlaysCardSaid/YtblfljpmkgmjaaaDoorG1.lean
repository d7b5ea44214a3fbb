/- Blocks known whole; a world in which some blocks may have turned; lists of entries in memory. -/
import Derived.Test.YtblfljpmkgmjaaaDoorS0
import Derived.Laws.Rows
import Derived.Laws.IdiomCopy
import Derived.Maps.AppendAt
import Derived.OneCell
namespace Go.Proofs.YtblfljpmkgmjaaaDoor
open Go.RowKit

/-- Block b is the row cs. -/
def Blk (w : World) (b : Nat) (cs : Array Value) (t : TypeId) : Prop := w.heap[b]? = some (.cells cs t (0, 0))
theorem Blk.cell {w : World} {b : Nat} {cs : Array Value} {t : TypeId} (h : Blk w b cs t) {i : Nat} {v : Value} (hv : cs[i]? = some v) : w.cell? ⟨b, i, none⟩ = some v := by rw [cell_of_row w b i cs t (0, 0) h, hv]
theorem Blk.free {w : World} {b : Nat} {cs : Array Value} {t : TypeId} (h : Blk w b cs t) (i : Nat) : w.frozen? ⟨b, i, none⟩ = false := frozen_of_row w b i cs t h
theorem Blk.lt {w : World} {b : Nat} {cs : Array Value} {t : TypeId} (h : Blk w b cs t) : b < w.heap.size := (Array.getElem?_eq_some_iff.1 h).1
theorem Blk.new (w : World) (cs : Array Value) (t : TypeId) : Blk (w.alloc (.cells cs t)) w.heap.size cs t := heap_alloc_new w _
theorem Blk.alloc {w : World} {b : Nat} {cs : Array Value} {t : TypeId} (h : Blk w b cs t) (o : Obj) : Blk (w.alloc o) b cs t := by unfold Blk; rw [heap_alloc_old w o h.lt]; exact h
theorem Blk.drew {w : World} {b : Nat} {cs : Array Value} {t : TypeId} (h : Blk w b cs t) : Blk w.drew b cs t := h
theorem Blk.drewN {w : World} {b : Nat} {cs : Array Value} {t : TypeId} (h : Blk w b cs t) (n : Nat) : Blk (w.drewN n) b cs t := h
theorem Blk.set {w : World} {b : Nat} {cs : Array Value} {t : TypeId} (h : Blk w b cs t) (i : Nat) (v : Value) : Blk (w.setCell ⟨b, i, none⟩ v) b (cs.setIfInBounds i v) t := heap_setCell_same w b i cs t v h
theorem Blk.other {w : World} {b : Nat} {cs : Array Value} {t : TypeId} (h : Blk w b cs t) {a : Addr} (ha : b ≠ a.block) (v : Value) : Blk (w.setCell a v) b cs t := by unfold Blk; rw [heap_setCell_other w a b v ha]; exact h
theorem Blk.gr {w w' : World} {b : Nat} {cs : Array Value} {t : TypeId} (h : Blk w b cs t) (g : Gr w w') : Blk w' b cs t := by unfold Blk; rw [g.block b h.lt]; exact h

/-- What was there is there as it was, but for the blocks of S. -/
structure GrX (S : List Nat) (w w' : World) : Prop where
  os : w'.os = w.os
  tape : w'.tape = w.tape
  output : w'.output = w.output
  size : w.heap.size ≤ w'.heap.size
  block : ∀ k, k < w.heap.size → k ∉ S → w'.heap[k]? = w.heap[k]?
theorem Gr.x {w w' : World} (g : Gr w w') (S : List Nat) : GrX S w w' := ⟨g.os, g.tape, g.output, g.size, fun k hk _ => g.block k hk⟩
theorem GrX.refl (S : List Nat) (w : World) : GrX S w w := (Gr.refl w).x S
theorem GrX.trans {S : List Nat} {a b c : World} (h : GrX S a b) (g : GrX S b c) : GrX S a c :=
  ⟨g.os.trans h.os, g.tape.trans h.tape, g.output.trans h.output, Nat.le_trans h.size g.size, fun k hk hn => (g.block k (Nat.lt_of_lt_of_le hk h.size) hn).trans (h.block k hk hn)⟩
theorem GrX.mono {S T : List Nat} {a b : World} (h : GrX S a b) (hs : ∀ x, x ∈ S → x ∈ T) : GrX T a b := ⟨h.os, h.tape, h.output, h.size, fun k hk hn => h.block k hk (fun hx => hn (hs k hx))⟩
theorem GrX.gr {S : List Nat} {a b c : World} (h : GrX S a b) (g : Gr b c) : GrX S a c := h.trans (g.x S)
theorem GrX.set {S : List Nat} {a b : World} (h : GrX S a b) {p : Addr} (hp : p.block ∈ S ∨ a.heap.size ≤ p.block) (v : Value) : GrX S a (b.setCell p v) :=
  ⟨h.os, h.tape, h.output, by simp; exact h.size, fun k hk hn => by
    rw [heap_setCell_other b p k v (fun e => by rcases hp with hp | hp; exact hn (e ▸ hp); omega)]
    exact h.block k hk hn⟩
theorem GrX.alloc {S : List Nat} {a b : World} (h : GrX S a b) (o : Obj) : GrX S a (b.alloc o) := h.gr ((Gr.refl b).alloc o)
theorem GrX.drew {S : List Nat} {a b : World} (h : GrX S a b) : GrX S a b.drew := h.gr ((Gr.refl b).drew)
theorem GrX.drewN {S : List Nat} {a b : World} (h : GrX S a b) (n : Nat) : GrX S a (b.drewN n) := h.gr ((Gr.refl b).drewN n)
/-- What turned was not there when all began. -/
theorem GrX.all {S : List Nat} {w a b : World} (g : Gr w a) (h : GrX S a b) (hS : ∀ x, x ∈ S → w.heap.size ≤ x) : Gr w b :=
  ⟨h.os.trans g.os, h.tape.trans g.tape, h.output.trans g.output, Nat.le_trans g.size h.size, fun k hk => by
    rw [h.block k (Nat.lt_of_lt_of_le hk g.size) (fun hx => by have := hS k hx; omega)]
    exact g.block k hk⟩
theorem Blk.grx {S : List Nat} {w w' : World} {b : Nat} {cs : Array Value} {t : TypeId} (h : Blk w b cs t) (g : GrX S w w') (hn : b ∉ S) : Blk w' b cs t := by unfold Blk; rw [g.block b h.lt hn]; exact h
theorem GrX.cell {S : List Nat} {w w' : World} (g : GrX S w w') {b : Nat} (hb : b < w.heap.size) (hn : b ∉ S) (o : Nat) : w'.cell? ⟨b, o, none⟩ = w.cell? ⟨b, o, none⟩ := World.cell?_of_block (g.block b hb hn)
theorem GrX.frozen {S : List Nat} {w w' : World} (g : GrX S w w') {b : Nat} (hb : b < w.heap.size) (hn : b ∉ S) (o : Nat) : w'.frozen? ⟨b, o, none⟩ = w.frozen? ⟨b, o, none⟩ := World.frozen?_of_block (g.block b hb hn)

/-- Records that lie in blocks of which K holds. -/
def RecsIn {α : Type} (K : Nat → Prop) (k : Nat) (enc : α → List Value) (w : World) (a : Option Addr) (l : List α) : Prop := RecsAt k enc w a l ∧ ∀ x, a = some x → l ≠ [] → K x.block
theorem RecsIn.grx {α : Type} {K : Nat → Prop} {T : List Nat} {k : Nat} {enc : α → List Value} {w w' : World} {a : Option Addr} {l : List α} (h : RecsIn K k enc w a l) (g : GrX T w w') (hT : ∀ x, x ∈ T → ¬ K x) : RecsIn K k enc w' a l := by
  refine ⟨fun i s hi => ?_, h.2⟩
  obtain ⟨b, off, ha, hb, hc⟩ := h.1 i s hi
  have hn : K b := h.2 _ ha (fun e => by rw [e] at hi; cases hi)
  refine ⟨b, off, ha, Nat.lt_of_lt_of_le hb g.size, fun j u hu => ?_⟩
  rw [g.cell hb (fun hx => hT b hx hn)]
  exact hc j u hu
theorem RecsIn.mono {α : Type} {K K' : Nat → Prop} {k : Nat} {enc : α → List Value} {w : World} {a : Option Addr} {l : List α} (h : RecsIn K k enc w a l) (hk : ∀ b, b < w.heap.size → K b → K' b) : RecsIn K' k enc w a l := by
  refine ⟨h.1, fun x hx hl => ?_⟩
  cases l with
  | nil => exact absurd rfl hl
  | cons s r =>
    obtain ⟨b, off, ha, hb, _⟩ := h.1 0 s rfl
    rw [hx] at ha
    cases ha
    exact hk _ hb (h.2 _ hx hl)
theorem RecsIn.nil {α : Type} (K : Nat → Prop) (k : Nat) (enc : α → List Value) (w : World) (a : Option Addr) : RecsIn K k enc w a [] := ⟨fun i s h => by simp at h, fun _ _ h => absurd rfl h⟩
abbrev Any : Nat → Prop := fun _ => True

theorem RecsAt.lt {α : Type} {k : Nat} {enc : α → List Value} {w : World} {a : Option Addr} {l : List α} (h : RecsAt k enc w a l) {x : Addr} (ha : a = some x) (hl : l ≠ []) : x.block < w.heap.size := by
  cases l with
  | nil => exact absurd rfl hl
  | cons s r =>
    obtain ⟨b, off, ha', hb, _⟩ := h 0 s rfl
    rw [ha] at ha'
    cases ha'
    exact hb
theorem RecsAt.grown {α : Type} {k : Nat} {enc : α → List Value} {w w' : World} {a : Option Addr} {l : List α} {row : Option Nat} (h : RecsAt k enc w a l) (hg : w.grownBy w' row) (hne : ∀ x, a = some x → l ≠ [] → row ≠ some x.block) : RecsAt k enc w' a l := by
  intro i s hi
  obtain ⟨b, off, ha, hb, hc⟩ := h i s hi
  have hn := hne _ ha (fun e => by rw [e] at hi; cases hi)
  refine ⟨b, off, ha, Nat.lt_of_lt_of_le hb hg.size, fun j u hu => ?_⟩
  rw [World.cell?_of_block (hg.block b hb (fun e => hn e.symm))]
  exact hc j u hu
theorem owns_gr {w w' : World} {base : Nat} {e : TypeId} {size : Nat} {v : Value} {n : Nat} {xs : List Value} (h : w.ownsRow base e size v n xs) (g : Gr w w') : w'.ownsRow base e size v n xs := by
  refine ⟨h.1, ?_⟩
  rcases h.2 with hn | ⟨b, cap, cur, h1, h2, h3, h4⟩
  · exact .inl hn
  · exact .inr ⟨b, cap, cur, h1, h2, by rw [Below.block g _ (Array.getElem?_eq_some_iff.1 h3).1]; exact h3, h4⟩
theorem owns_lt {w : World} {base : Nat} {e : TypeId} {size : Nat} {v : Value} {n : Nat} {xs : List Value} (h : w.ownsRow base e size v n xs) : ∀ g, v.ownBlock = some g → g < w.heap.size ∧ base ≤ g := fun g hg => ⟨(h.lt g hg).2, (h.lt g hg).1⟩

/-- append(own, x): one record more; where the slice lies. -/
theorem wpList_append_one {α : Type} {k : Nat} {enc : α → List Value} {P : Program} {w : World} {ops : Array Oper} {rest : List Oper} {o : Oper} {a : Act} {Q : Exit → Act → World → Prop} (hgd : o.guard = none) (s x : Operand) (t : TypeId)
    (ho : o.op = .call { callee := .builtin .append, args := #[s, x], argTypes := #[t, t] })
    (base : Nat) (e : TypeId) (i : TypeInfo) (z : Value) (bytes : Nat) (ht : P.underlying t = some (.slice e)) (hi : P.info? e = some i) (hz : i.zero = some z)
    (hsize : i.size = k) (hby : i.bytes = bytes) (hzs : z.cells.size = k) (hsz : 0 < k)
    (hk : ∀ s, (enc s).length = k) (h1 : ∀ s, ∀ u ∈ enc s, u.oneCell' = true)
    (v : Value) (l0 : List α) (hs : a.eval s = v) (hown : w.ownsRow base e k v l0.length (l0.flatMap enc))
    (B c : Nat) (y : α) (hx : a.eval x = .slice (some ⟨B, 0, none⟩) 1 c) (hl : RecsAt k enc w (some ⟨B, 0, none⟩) [y])
    (h63 : l0.length + 1 ≤ maxLen) (hbytes : (l0.length + 1) * bytes ≤ 140737488355328) (hbase : base ≤ w.heap.size)
    (h : ∀ v' w', w'.ownsRow base e k v' (l0 ++ [y]).length ((l0 ++ [y]).flatMap enc) → w.grownBy w' v.ownBlock → (v'.ownBlock = v.ownBlock ∨ v'.ownBlock = some w.heap.size) → wpList P ops Q rest (a.put o.dst v') w') : wpList P ops Q (o :: rest) a w := by
  refine wpList_append_own_at w hgd s x t ho base e i z k bytes ht hi hz hsize hby hzs hsz v l0.length (l0.flatMap enc) hs hown ⟨B, 0, none⟩ 1 c (enc y) hx (by rw [hk, Nat.one_mul]) ?_ (h1 y) h63 hbytes hbase ?_
  · intro j u hu
    obtain ⟨b, off, ha, _, hc⟩ := hl 0 y rfl
    cases ha
    have := hc j u hu
    unfold Addr.add
    split
    · rename_i h0; rw [h0] at this; simpa using this
    · simpa using this
  · intro v' w' h2 h3 _ h5
    exact h v' w' (by simpa using h2) h3 h5

/-- An entry of the ledger. -/
structure Ent where
  cl : Int
  nu : Int
  kd : Int
  id : Int
  srv : Srv
  po : Int
  tasks : List Tsk
  at_ : Int
abbrev Ent.cells (e : Ent) (a : Option Addr) (c : Nat) : List Value :=
  [.int .i64 e.cl, .int .i64 e.nu, .int .i64 e.kd, .int .i64 e.id, .int .i64 e.srv.k, .int .i64 e.srv.q, .int .i64 e.srv.t, .int .i64 e.po, .slice a e.tasks.length c, .int .i64 e.at_]
/-- An entry as it lies: the entry, its tasks' place. -/
structure EntM where
  e : Ent
  a : Option Addr
  c : Nat
abbrev EntM.cells (x : EntM) : List Value := x.e.cells x.a x.c
theorem EntM.cells_len (x : EntM) : x.cells.length = 10 := rfl
theorem EntM.cells_one (x : EntM) : ∀ u ∈ x.cells, u.oneCell' = true := by
  intro u hu
  simp at hu
  rcases hu with rfl | rfl | rfl | rfl | rfl | rfl | rfl | rfl | rfl | rfl <;> rfl
/-- Its tasks lie where it says, in blocks of which K holds. -/
def EntM.ok (K : Nat → Prop) (w : World) (x : EntM) : Prop := RecsIn K 4 Tsk.cells w x.a x.e.tasks ∧ (x.a = none → x.c = 0) ∧ x.e.tasks.length ≤ x.c ∧ x.c ≤ maxLen ∧ x.e.tasks.length * 32 ≤ 140737488351232
theorem EntM.ok.grx {K : Nat → Prop} {T : List Nat} {w w' : World} {x : EntM} (h : x.ok K w) (g : GrX T w w') (hT : ∀ y, y ∈ T → ¬ K y) : x.ok K w' := ⟨h.1.grx g hT, h.2⟩
theorem EntM.ok.mono {K K' : Nat → Prop} {w : World} {x : EntM} (h : x.ok K w) (hk : ∀ b, b < w.heap.size → K b → K' b) : x.ok K' w := ⟨h.1.mono hk, h.2⟩
theorem EntM.ok.grown {K : Nat → Prop} {w w' : World} {x : EntM} {row : Option Nat} (h : x.ok K w) (hg : w.grownBy w' row) (hne : ∀ ad, x.a = some ad → x.e.tasks ≠ [] → row ≠ some ad.block) : x.ok K w' := ⟨⟨h.1.1.grown hg hne, h.1.2⟩, h.2⟩
/-- A ledger in memory, in blocks of which K holds. -/
def LedM (K : Nat → Prop) (w : World) (a : Option Addr) (L : List EntM) : Prop := RecsIn K 10 EntM.cells w a L ∧ ∀ x ∈ L, x.ok K w
theorem LedM.grx {K : Nat → Prop} {T : List Nat} {w w' : World} {a : Option Addr} {L : List EntM} (h : LedM K w a L) (g : GrX T w w') (hT : ∀ y, y ∈ T → ¬ K y) : LedM K w' a L :=
  ⟨h.1.grx g hT, fun x hx => (h.2 x hx).grx g hT⟩
theorem LedM.mono {K K' : Nat → Prop} {w : World} {a : Option Addr} {L : List EntM} (h : LedM K w a L) (hk : ∀ b, b < w.heap.size → K b → K' b) : LedM K' w a L := ⟨h.1.mono hk, fun x hx => (h.2 x hx).mono hk⟩
theorem LedM.nil (K : Nat → Prop) (w : World) (a : Option Addr) : LedM K w a [] := ⟨RecsIn.nil _ _ _ _ _, fun _ h => by cases h⟩
theorem LedM.gr {K : Nat → Prop} {w w' : World} {a : Option Addr} {L : List EntM} (h : LedM K w a L) (g : Gr w w') : LedM K w' a L := h.grx (T := []) (g.x []) (fun _ h => by cases h)
theorem EntM.ok.gr {K : Nat → Prop} {w w' : World} {x : EntM} (h : x.ok K w) (g : Gr w w') : x.ok K w' := h.grx (T := []) (g.x []) (fun _ h => by cases h)
/-- The cells of an entry of a ledger. -/
theorem LedM.get {K : Nat → Prop} {w : World} {a : Option Addr} {L : List EntM} (h : LedM K w a L) {i : Nat} {x : EntM} (hx : L[i]? = some x) :
    ∃ b off, a = some ⟨b, off, none⟩ ∧ b < w.heap.size ∧ K b ∧ w.cell? ⟨b, off + i * 10, none⟩ = some (.int .i64 x.e.cl) ∧ w.cell? ⟨b, off + i * 10 + 1, none⟩ = some (.int .i64 x.e.nu) ∧ w.cell? ⟨b, off + i * 10 + 2, none⟩ = some (.int .i64 x.e.kd) ∧ w.cell? ⟨b, off + i * 10 + 3, none⟩ = some (.int .i64 x.e.id) ∧
      w.cell? ⟨b, off + i * 10 + 4, none⟩ = some (.int .i64 x.e.srv.k) ∧ w.cell? ⟨b, off + i * 10 + 5, none⟩ = some (.int .i64 x.e.srv.q) ∧ w.cell? ⟨b, off + i * 10 + 6, none⟩ = some (.int .i64 x.e.srv.t) ∧ w.cell? ⟨b, off + i * 10 + 7, none⟩ = some (.int .i64 x.e.po) ∧
      w.cell? ⟨b, off + i * 10 + 8, none⟩ = some (.slice x.a x.e.tasks.length x.c) ∧ w.cell? ⟨b, off + i * 10 + 9, none⟩ = some (.int .i64 x.e.at_) := by
  obtain ⟨b, off, ha, hb, hc⟩ := h.1.1 i x hx
  exact ⟨b, off, ha, hb, h.1.2 _ ha (fun e => by rw [e] at hx; cases hx), hc 0 _ rfl, hc 1 _ rfl, hc 2 _ rfl, hc 3 _ rfl, hc 4 _ rfl, hc 5 _ rfl, hc 6 _ rfl, hc 7 _ rfl, hc 8 _ rfl, hc 9 _ rfl⟩

/-- A ballot. -/
structure Bal where
  r : Int
  n : Int
def aboveB (a b : Bal) : Bool := decide (b.r < a.r ∨ a.r = b.r ∧ b.n < a.n)
def balB (b : Bal) : Bool := decide (1 ≤ b.r ∧ b.r ≤ 1099511627776 ∧ 0 ≤ b.n ∧ b.n ≤ 6)
end Go.Proofs.YtblfljpmkgmjaaaDoor
