/- The sentinels; lists of servers and tasks in memory. -/
import Derived.Test.YtblfljpmkgmjaaaDoorRows
import Derived.WalkKit
import Derived.Test.YtblfljpmkgmjaaaDoorR
import Derived.WalkSpells
import Derived.WalkLawsBesides
import Derived.Lib.Hide
import Derived.BigQuiet
import Derived.Deep.QuietTactic
import Derived.Deep.RegionHeld3
import Derived.Deep.DrawnRows
import Derived.Deep.DeepFit
import Derived.LaidEql
namespace Go.Proofs.YtblfljpmkgmjaaaDoor
open Go.RowKit

/-- The value of sentinel number g. -/
abbrev errAt (E : Nat → Addr) (g : Nat) : Value := .iface 194 (.pointer (some (E g)))

/-- The sentinels' variables (those of the list G) hold what their initialisers laid. -/
structure EAt (G : List Nat) (E : Nat → Addr) (w : World) : Prop where
  lt : ∀ g, g ∈ G → g < w.heap.size
  at_lt : ∀ g, g ∈ G → (E g).block < w.heap.size
  cell : ∀ g, g ∈ G → w.cell? ⟨g, 0, none⟩ = some (errAt E g)
  row : ∀ g, g ∈ G → ∃ c t, w.heap[(E g).block]? = some (.cells c t (0, 0))
  ne : ∀ g k, g ∈ G → k ∈ G → g ≠ k → E g ≠ E k

theorem EAt.gr {G : List Nat} {E : Nat → Addr} {w w' : World} (h : EAt G E w) (g : Gr w w') : EAt G E w' where
  lt k hk := Nat.lt_of_lt_of_le (h.lt k hk) g.size
  at_lt k hk := Nat.lt_of_lt_of_le (h.at_lt k hk) g.size
  cell k hk := by rw [g.cells.1 k 0 (h.lt k hk)]; exact h.cell k hk
  row k hk := by obtain ⟨c, t, e⟩ := h.row k hk; exact ⟨c, t, by rw [Below.block g _ (h.at_lt k hk)]; exact e⟩
  ne := h.ne
theorem EAt.c0 {G : List Nat} {E : Nat → Addr} {w : World} (h : EAt G E w) {g : Nat} (hg : g ∈ G) : w.cell? ⟨g, 0, none⟩ = some (.iface 194 (.pointer (some (E g)))) := h.cell g hg

theorem Tryd.errComp : (Tryd.prog.info? 194).map (·.comparable) = some true := by kernel_rfl
theorem Tryd.errSize : (Tryd.prog.info? 210).map (·.size) = some 1 := by kernel_rfl
theorem eql_same (E : Nat → Addr) (g : Nat) (w : World) : (binOp .eql 27 (.iface 194 (.pointer (some (E g)))) (.iface 194 (.pointer (some (E g))))).run Tryd.prog w = .ok (.bool true) w := by
  obtain ⟨i, hi, hc⟩ := Option.map_eq_some_iff.1 Tryd.errComp
  obtain ⟨j, hj, hs⟩ := Option.map_eq_some_iff.1 Tryd.errSize
  exact run_eql_iface_ptr_same w (E g) Tryd.underlying27 Tryd.underlying194 hi hc hj
theorem eql_other {G : List Nat} {E : Nat → Addr} {w : World} (h : EAt G E w) {g k : Nat} (hg : g ∈ G) (hk : k ∈ G) (hn : g ≠ k) : (binOp .eql 27 (.iface 194 (.pointer (some (E g)))) (.iface 194 (.pointer (some (E k))))).run Tryd.prog w = .ok (.bool false) w := by
  obtain ⟨i, hi, hc⟩ := Option.map_eq_some_iff.1 Tryd.errComp
  obtain ⟨j, hj, hs⟩ := Option.map_eq_some_iff.1 Tryd.errSize
  obtain ⟨c, t, e⟩ := h.row g hg
  obtain ⟨c', t', e'⟩ := h.row k hk
  exact run_eql_iface_ptr_other w Tryd.underlying27 Tryd.underlying194 hi hc hj (by rw [hs]; decide) (h.ne g k hg hk hn) e e'

/-- A server, a task. -/
structure Srv where
  k : Int
  q : Int
  t : Int
structure Tsk where
  c : Int
  p : Int
  d : Int
  s : Int
instance : Inhabited Srv := ⟨⟨0, 0, 0⟩⟩
instance : Inhabited Tsk := ⟨⟨0, 0, 0, 0⟩⟩

def Srv.leg (s : Srv) : Bool := decide (1 ≤ s.k ∧ s.k ≤ 3 ∧ 1 ≤ s.q ∧ s.q ≤ s.t ∧ s.t ≤ 256)
def Tsk.leg (t : Tsk) : Bool := decide (1 ≤ t.c ∧ t.c ≤ t.d ∧ t.d ≤ t.p ∧ t.p ≤ 256 ∧ 0 ≤ t.s ∧ t.s ≤ t.c)
theorem Srv.leg_iff (s : Srv) : s.leg = true ↔ (1 ≤ s.k ∧ s.k ≤ 3 ∧ 1 ≤ s.q ∧ s.q ≤ s.t ∧ s.t ≤ 256) := by unfold Srv.leg; exact decide_eq_true_iff
theorem Tsk.leg_iff (t : Tsk) : t.leg = true ↔ (1 ≤ t.c ∧ t.c ≤ t.d ∧ t.d ≤ t.p ∧ t.p ≤ 256 ∧ 0 ≤ t.s ∧ t.s ≤ t.c) := by unfold Tsk.leg; exact decide_eq_true_iff

/-- In w there lies at a what reads as l. -/
def SrvsAt (w : World) (a : Option Addr) (l : List Srv) : Prop :=
  ∀ (i : Nat) (s : Srv), l[i]? = some s → ∃ b off, a = some ⟨b, off, none⟩ ∧ b < w.heap.size ∧ w.cell? ⟨b, off + i * 3, none⟩ = some (.int .i64 s.k) ∧ w.cell? ⟨b, off + i * 3 + 1, none⟩ = some (.int .i64 s.q) ∧ w.cell? ⟨b, off + i * 3 + 2, none⟩ = some (.int .i64 s.t)
def TsksAt (w : World) (a : Option Addr) (l : List Tsk) : Prop :=
  ∀ (i : Nat) (s : Tsk), l[i]? = some s → ∃ b off, a = some ⟨b, off, none⟩ ∧ b < w.heap.size ∧ w.cell? ⟨b, off + i * 4, none⟩ = some (.int .i64 s.c) ∧ w.cell? ⟨b, off + i * 4 + 1, none⟩ = some (.int .i64 s.p) ∧ w.cell? ⟨b, off + i * 4 + 2, none⟩ = some (.int .i64 s.d) ∧ w.cell? ⟨b, off + i * 4 + 3, none⟩ = some (.int .i64 s.s)
theorem SrvsAt.gr {w w' : World} {a : Option Addr} {l : List Srv} (h : SrvsAt w a l) (g : Gr w w') : SrvsAt w' a l := by
  intro i s hi
  obtain ⟨b, off, ha, hb, h0, h1, h2⟩ := h i s hi
  have hc := g.cells.1
  exact ⟨b, off, ha, Nat.lt_of_lt_of_le hb g.size, by rw [hc _ _ hb]; exact h0, by rw [hc _ _ hb]; exact h1, by rw [hc _ _ hb]; exact h2⟩
theorem TsksAt.gr {w w' : World} {a : Option Addr} {l : List Tsk} (h : TsksAt w a l) (g : Gr w w') : TsksAt w' a l := by
  intro i s hi
  obtain ⟨b, off, ha, hb, h0, h1, h2, h3⟩ := h i s hi
  have hc := g.cells.1
  exact ⟨b, off, ha, Nat.lt_of_lt_of_le hb g.size, by rw [hc _ _ hb]; exact h0, by rw [hc _ _ hb]; exact h1, by rw [hc _ _ hb]; exact h2, by rw [hc _ _ hb]; exact h3⟩
theorem get_some {α : Type} (l : List α) (i : Nat) (h : i < l.length) : ∃ s, l[i]? = some s := ⟨l[i], by simp [h]⟩
theorem take_snoc {α : Type} {l : List α} {i : Nat} {s : α} (h : l[i]? = some s) : l.take (i + 1) = l.take i ++ [s] := by
  rw [List.take_add_one, h]; rfl
theorem get_lt {α : Type} {l : List α} {i : Nat} {s : α} (h : l[i]? = some s) : i < l.length := by
  have := List.getElem?_eq_some_iff.1 h; exact this.1
theorem get_mem {α : Type} {l : List α} {i : Nat} {s : α} (h : l[i]? = some s) : s ∈ l := List.mem_of_getElem? h

abbrev Srv.cells (s : Srv) : List Value := [.int .i64 s.k, .int .i64 s.q, .int .i64 s.t]
abbrev Tsk.cells (s : Tsk) : List Value := [.int .i64 s.c, .int .i64 s.p, .int .i64 s.d, .int .i64 s.s]
theorem srvs_recs {w : World} {a : Option Addr} {l : List Srv} (h : SrvsAt w a l) : RecsAt 3 Srv.cells w a l := by
  intro i s hi
  obtain ⟨b, off, ha, hb, h0, h1, h2⟩ := h i s hi
  refine ⟨b, off, ha, hb, fun j u hu => ?_⟩
  match j, hu with
  | 0, hu => obtain rfl := Option.some.inj hu; exact h0
  | 1, hu => obtain rfl := Option.some.inj hu; exact h1
  | 2, hu => obtain rfl := Option.some.inj hu; exact h2
theorem recs_srvs {w : World} {a : Option Addr} {l : List Srv} (h : RecsAt 3 Srv.cells w a l) : SrvsAt w a l := by
  intro i s hi
  obtain ⟨b, off, ha, hb, hc⟩ := h i s hi
  exact ⟨b, off, ha, hb, hc 0 _ rfl, hc 1 _ rfl, hc 2 _ rfl⟩
theorem tsks_recs {w : World} {a : Option Addr} {l : List Tsk} (h : TsksAt w a l) : RecsAt 4 Tsk.cells w a l := by
  intro i s hi
  obtain ⟨b, off, ha, hb, h0, h1, h2, h3⟩ := h i s hi
  refine ⟨b, off, ha, hb, fun j u hu => ?_⟩
  match j, hu with
  | 0, hu => obtain rfl := Option.some.inj hu; exact h0
  | 1, hu => obtain rfl := Option.some.inj hu; exact h1
  | 2, hu => obtain rfl := Option.some.inj hu; exact h2
  | 3, hu => obtain rfl := Option.some.inj hu; exact h3
theorem recs_tsks {w : World} {a : Option Addr} {l : List Tsk} (h : RecsAt 4 Tsk.cells w a l) : TsksAt w a l := by
  intro i s hi
  obtain ⟨b, off, ha, hb, hc⟩ := h i s hi
  exact ⟨b, off, ha, hb, hc 0 _ rfl, hc 1 _ rfl, hc 2 _ rfl, hc 3 _ rfl⟩
theorem Srv.cells_len (s : Srv) : s.cells.length = 3 := rfl
theorem Tsk.cells_len (s : Tsk) : s.cells.length = 4 := rfl
theorem Srv.cells_one (s : Srv) : ∀ u ∈ s.cells, u.oneCell' = true := by intro u hu; simp at hu; rcases hu with rfl | rfl | rfl <;> rfl
theorem Tsk.cells_one (s : Tsk) : ∀ u ∈ s.cells, u.oneCell' = true := by intro u hu; simp at hu; rcases hu with rfl | rfl | rfl | rfl <;> rfl
theorem Tryd.infoSrv : (Tryd.prog.info? 31).map (fun i => (i.zero, i.size, i.bytes)) = some (some (.agg #[.int .i64 0, .int .i64 0, .int .i64 0]), 3, 24) := by kernel_rfl
theorem Tryd.infoTsk : (Tryd.prog.info? 65).map (fun i => (i.zero, i.size, i.bytes)) = some (some (.agg #[.int .i64 0, .int .i64 0, .int .i64 0, .int .i64 0]), 4, 32) := by kernel_rfl

theorem size_drewN (w : World) (n : Nat) : (w.drewN n).heap.size = w.heap.size := rfl
theorem ret2 {k : IntKind} {a b a' b' : Int} (h1 : a = a') (h2 : b = b') : Ending.returned (.tuple #[.int k a, .int k b]) = .returned (.tuple #[.int k a', .int k b']) := by rw [h1, h2]
theorem ret1 {k : IntKind} {a b : Int} (h : a = b) : Ending.returned (.int k a) = .returned (.int k b) := by rw [h]
theorem retb {a b : Bool} (h : a = b) : Ending.returned (.bool a) = .returned (.bool b) := by rw [h]
end Go.Proofs.YtblfljpmkgmjaaaDoor
