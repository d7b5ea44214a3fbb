/- An opener of entries that also says that the slice's length is within its room. -/
import Derived.Test.YtglfdnfojpdkjaaGreatDoorJ44
namespace Go.Proofs.YtglfdnfojpdkjaaGreatDoor
open Go.ChangeShapes Go.WideShapes Go.ChangeAt Go.RowKit Go.Deep Go.Joins
section
variable {H : Type} {enc : TypeId × Value → H} {W : World}
set_option maxRecDepth 100000 in
theorem open_ents2 {base : Nat} {v : Value} {d : DataW H} {p : List MemPlace} (hval : Value.okWide Tryz.prog W .any base 22 v) (h : DataW.Trod enc Tryz.prog W 0 (fun _ => true) true 22 v d p) :
    ∃ (a : Option Addr) (c : Nat) (L : List EntM), v = .slice a L.length c ∧ (a = none → c = 0) ∧ L.length ≤ c ∧ (∀ x ∈ L, EntI x.e) ∧ ((d.weights Tryz.prog 22).all (· ≤ reachBytes) = true → LedM Any W a L ∧ L.length * 96 ≤ reachBytes) := by
  obtain ⟨a0, len, cap, rfl⟩ := okWide_slice Tryz.underlying22 hval
  obtain ⟨fuel, hf⟩ := h
  obtain ⟨a, c, L, hcs, r1, r2, r3, r4, r5, r6⟩ := recs_of_trod (k := 10) (bytes := 96) (code := EntM.cells) Tryz.underlying22 (by kernel_rfl) (by kernel_rfl) (by omega) EntM.cells_len (ent_of_trod (enc := enc) (W := W)) hf
  simp [Value.cells] at hcs
  obtain ⟨rfl, rfl, rfl⟩ := hcs
  exact ⟨_, _, L, rfl, r2, r3, fun x hx => (r5 x hx).1, fun hw => ⟨⟨r1, fun x hx => (r5 x hx).ok ((r6 hw).2 x hx)⟩, (r6 hw).1⟩⟩
end
end Go.Proofs.YtglfdnfojpdkjaaGreatDoor
