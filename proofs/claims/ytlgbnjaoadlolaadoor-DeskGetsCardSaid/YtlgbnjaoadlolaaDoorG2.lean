/- Ballots; slices.Clone of tasks; copied of a ledger. -/
import Derived.Test.YtlgbnjaoadlolaaDoorG1
import Derived.Test.YtlgbnjaoadlolaaDoorR2
import Derived.Lib.SliceRun
namespace Go.Proofs.YtlgbnjaoadlolaaDoor
open Go.RowKit

/-- A slice that was made anew. -/
def NewP {α : Type} (k : Nat) (enc : α → List Value) (l : List α) (w : World) (e : Ending) (w' : World) : Prop :=
  ∃ a c, e = .returned (.slice a l.length c) ∧ RecsIn (fun b => w.heap.size ≤ b) k enc w' a l ∧ (a = none → c = 0) ∧ l.length ≤ c ∧ c ≤ maxLen ∧ Gr w w'
theorem owns_cap {w : World} {base : Nat} {e : TypeId} {size : Nat} {v : Value} {n : Nat} {xs : List Value} {a : Option Addr} {m c : Nat} (h : w.ownsRow base e size v n xs) (hv : v = .slice a m c) : n ≤ c ∧ c ≤ maxLen := by
  obtain ⟨_, ⟨h1, h2⟩ | ⟨g, cap, cur, h1, _, _, h2, h3, _⟩⟩ := h
  · rw [hv] at h1; cases h1; exact ⟨by omega, Nat.zero_le _⟩
  · rw [hv] at h1; cases h1; exact ⟨h2, h3⟩

theorem Tryd.infoEnt : (Tryd.prog.info? 79).map (fun i => (i.zero, i.size, i.bytes)) = some (some (.agg #[.int .i64 0, .int .i64 0, .int .i64 0, .int .i64 0, .int .i64 0, .int .i64 0, .int .i64 0, .int .i64 0, .slice none 0 0, .int .i64 0]), 10, 96) := by kernel_rfl

/-- A ledger that was made anew, of the same entries. -/
def LedP (L : List EntM) (w : World) (e : Ending) (w' : World) : Prop :=
  ∃ a c L', e = .returned (.slice a L.length c) ∧ L'.map (·.e) = L.map (·.e) ∧ LedM (fun b => w.heap.size ≤ b) w' a L' ∧ (a = none → c = 0) ∧ L.length ≤ c ∧ c ≤ maxLen ∧ Gr w w' ∧
    w'.ownsRow w.heap.size 79 10 (.slice a L'.length c) L'.length (L'.flatMap EntM.cells) ∧ ∀ x ∈ L', ∀ ad, x.a = some ad → x.e.tasks ≠ [] → (Value.slice a L'.length c).ownBlock ≠ some ad.block

theorem ent_cap {K : Nat → Prop} {w : World} {x : EntM} (h : x.ok K w) : x.e.tasks.length * 32 ≤ 140737488351232 := h.2.2.2.2
abbrev EntM.obj (x : EntM) : Obj := .cells #[.int .i64 x.e.cl, .int .i64 x.e.nu, .int .i64 x.e.kd, .int .i64 x.e.id, .int .i64 x.e.srv.k, .int .i64 x.e.srv.q, .int .i64 x.e.srv.t, .int .i64 x.e.po, .slice x.a x.e.tasks.length x.c, .int .i64 x.e.at_] 79

end Go.Proofs.YtlgbnjaoadlolaaDoor
