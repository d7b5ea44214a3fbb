/- order.Place, order.Add. -/
import Derived.Test.YtlgbnjaoadlolaaDoorG5
import Derived.Deep.AppendLies
namespace Go.Proofs.YtlgbnjaoadlolaaDoor
open Go.RowKit

/-- A list of one entry, copied. -/
def OneP (x : Ent) (w : World) (e : Ending) (w' : World) : Prop :=
  ∃ b2 o2 c2, ∃ y : EntM, e = .returned (.slice (some ⟨b2, o2, none⟩) 1 c2) ∧ y.e = x ∧ (∀ j u, y.cells[j]? = some u → w'.cell? ((⟨b2, o2, none⟩ : Addr).add j) = some u) ∧ y.ok (fun b => w.heap.size ≤ b) w' ∧ Gr w w'
def AddP (L : List Ent) (n : Nat) (w : World) (e : Ending) (w' : World) : Prop :=
  ∃ a c L', e = .returned (.tuple #[.slice a L'.length c, .int .i64 n, .nilIface]) ∧ L'.map (·.e) = L ∧ LedM (fun b => w.heap.size ≤ b) w' a L' ∧ (a = none → c = 0) ∧ L'.length ≤ c ∧ c ≤ maxLen ∧ Gr w w'

/-- The place of the first entry with a key, or -1. -/
def plE (l : List Ent) (cl nu : Int) : Int := match l.findIdx? (isKey cl nu) with
  | some i => (i : Int)
  | none => -1
theorem plIx_map (L : List EntM) (cl nu : Int) : plIx L cl nu = plE (L.map (·.e)) cl nu := by
  unfold plIx plE
  rw [List.findIdx?_map]
  rfl
theorem plE_cases (l : List Ent) (cl nu : Int) : plE l cl nu = -1 ∨ ∃ k : Nat, plE l cl nu = k ∧ k < l.length := by
  unfold plE
  cases h : l.findIdx? (isKey cl nu) with
  | none => exact .inl rfl
  | some i =>
    rw [List.findIdx?_eq_some_iff_getElem] at h
    exact .inr ⟨i, rfl, h.1⟩
end Go.Proofs.YtlgbnjaoadlolaaDoor
