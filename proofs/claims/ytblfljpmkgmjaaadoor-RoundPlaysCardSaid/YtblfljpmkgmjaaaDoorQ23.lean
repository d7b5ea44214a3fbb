/- A ledger of one's own that is written over: what keeps. -/
import Derived.Test.YtblfljpmkgmjaaaDoorQ22
namespace Go.Proofs.YtblfljpmkgmjaaaDoor
open Go.RowKit

/-- The entries of L lie in block g from off on; where their tasks lie is as it was; every entry's client and every task's first number can be written. -/
structure Scr (B C : Nat) (w : World) (g off : Nat) (L : List EntM) : Prop where
  hB : B ≤ g ∧ g < C
  sl : ∀ i x, L[i]? = some x → w.cell? ⟨g, off + i * 10 + 8, none⟩ = some (.slice x.a x.e.tasks.length x.c)
  cl : ∀ i x, L[i]? = some x → ∃ v, w.cell? ⟨g, off + i * 10, none⟩ = some v
  fr : ∀ o, w.frozen? ⟨g, o, none⟩ = false
  tk : ∀ x ∈ L, ∀ j, j < x.e.tasks.length → ∃ b o v, x.a = some ⟨b, o, none⟩ ∧ b ≠ g ∧ (B ≤ b ∧ b < C) ∧ w.cell? ⟨b, o + j * 4, none⟩ = some v ∧ w.frozen? ⟨b, o + j * 4, none⟩ = false
theorem cell_after {w : World} {a p : Addr} {u v : Value} (h : w.cell? p = some u) : ∃ u', (w.setCell a v).cell? p = some u' := by
  by_cases e : a = p
  · subst e
    exact ⟨v, World.cell?_setCell_same _ _ _ h⟩
  · exact ⟨u, by rw [World.cell?_setCell_other _ _ _ _ e]; exact h⟩
theorem Scr.set {B C : Nat} {w : World} {g off : Nat} {L : List EntM} (h : Scr B C w g off L) (p : Addr) (v : Value) (hp : p.block ≠ g ∨ ∃ i, p = ⟨g, off + i * 10, none⟩) : Scr B C (w.setCell p v) g off L := by
  refine ⟨h.hB, fun i x hx => ?_, fun i x hx => ?_, fun o => by rw [World.frozen?_setCell]; exact h.fr o, fun x hx j hj => ?_⟩
  · rw [World.cell?_setCell_other _ _ _ _ (fun e => ?_)]
    · exact h.sl i x hx
    · rcases hp with hp | ⟨k, rfl⟩
      · exact hp (by rw [e])
      · have := congrArg Addr.off e
        dsimp only at this
        omega
  · obtain ⟨u, hu⟩ := h.cl i x hx
    exact cell_after hu
  · obtain ⟨b, o, u, e1, e2, e3, e4, e5⟩ := h.tk x hx j hj
    obtain ⟨u', hu'⟩ := cell_after (a := p) (v := v) e4
    exact ⟨b, o, u', e1, e2, e3, hu', by rw [World.frozen?_setCell]; exact e5⟩
theorem Scr.grx {B C : Nat} {T : List Nat} {w w' : World} {g off : Nat} {L : List EntM} (h : Scr B C w g off L) (hC : C ≤ w.heap.size) (hT : ∀ y, y ∈ T → y < B) (gr : GrX T w w') : Scr B C w' g off L := by
  have hg : g ∉ T := fun hm => by have := hT _ hm; have := h.hB; omega
  have hgl : g < w.heap.size := by have := h.hB; omega
  refine ⟨h.hB, fun i x hx => by rw [gr.cell hgl hg]; exact h.sl i x hx, fun i x hx => by rw [gr.cell hgl hg]; exact h.cl i x hx, fun o => by rw [gr.frozen hgl hg]; exact h.fr o, fun x hx j hj => ?_⟩
  obtain ⟨b, o, u, e1, e2, e3, e4, e5⟩ := h.tk x hx j hj
  have hb : b ∉ T := fun hm => by have := hT _ hm; omega
  exact ⟨b, o, u, e1, e2, e3, by rw [gr.cell (by omega) hb]; exact e4, by rw [gr.frozen (by omega) hb]; exact e5⟩
theorem WLed.scr {B : Nat} {w : World} {a : Option Addr} {L : List EntM} (h : WLed B w a L) (hne : L ≠ []) : ∃ g off, a = some ⟨g, off, none⟩ ∧ Scr B w.heap.size w g off L := by
  obtain ⟨y, t, hyt⟩ := List.exists_cons_of_ne_nil hne
  obtain ⟨g, off, rfl, hb, hBg, -⟩ := h.1.get (i := 0) (x := y) (by rw [hyt]; rfl)
  refine ⟨g, off, rfl, ⟨hBg, hb⟩, fun i x hx => ?_, fun i x hx => ?_, fun o => h.2.1 _ rfl hne o, fun x hx j hj => ?_⟩
  · obtain ⟨g', off', e, _, _, _, _, _, _, _, _, _, _, c8, _⟩ := h.1.get hx
    cases e
    exact c8
  · obtain ⟨g', off', e, _, _, c0, _⟩ := h.1.get hx
    cases e
    exact ⟨_, c0⟩
  · obtain ⟨d, hd⟩ := get_some x.e.tasks j hj
    have ht : x.e.tasks ≠ [] := fun e => by rw [e] at hj; simp at hj
    obtain ⟨b, o, ha, hbl, hc⟩ := (h.1.2 x hx).1.1 j d hd
    have hf := h.2.2 x hx _ ha ht
    have hBb := (h.1.2 x hx).1.2 _ ha ht
    have c0 := hc 0 _ rfl
    rw [Nat.add_zero] at c0
    exact ⟨b, o, _, ha, hf.2 _ rfl, ⟨hBb, hbl⟩, c0, hf.1 _⟩
end Go.Proofs.YtblfljpmkgmjaaaDoor
