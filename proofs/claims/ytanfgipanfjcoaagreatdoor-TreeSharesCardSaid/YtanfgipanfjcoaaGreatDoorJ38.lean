/- The trees that orders make: ids. -/
import Derived.Test.YtanfgipanfjcoaaGreatDoorJ37
namespace Go.Proofs.YtanfgipanfjcoaaGreatDoor
open Go.RowKit

/-- An id that was given, and whose node is gone. -/
def GoneP (t : TreeV) (x : Int) : Prop := 1 ≤ x ∧ x ≤ t.last ∧ t.find x = none
theorem find_none {t : TreeV} {x : Int} : t.find x = none ↔ ∀ y ∈ t.nodes, y.id ≠ x := by
  unfold TreeV.find
  rw [List.find?_eq_none]
  exact ⟨fun h y hy => by simpa using h y hy, fun h y hy => by simpa using h y hy⟩
/-- The last id. -/
theorem last_step (t : TreeV) (o : OrdV) : (((t.apply o).2.1 = 0 ∧ o.kd = 1) ∧ (t.apply o).2.2 = t.last + 1 ∧ (t.apply o).1.last = t.last + 1) ∨ (¬ ((t.apply o).2.1 = 0 ∧ o.kd = 1) ∧ (t.apply o).1.last = t.last) := by
  rcases apply_cases t o with ⟨e, _⟩ | ⟨a0, a1, hc⟩
  · rw [e]; exact .inr ⟨fun h => absurd h.1 (by show ¬ ((7 : Int) = 0); decide), rfl⟩
  rcases hc with ⟨k1, e⟩ | ⟨k1, e⟩ | ⟨k1, e⟩ | ⟨k1, e⟩ <;> rw [e]
  · rcases create_cases (t.tick o.at_) o with ⟨c, hc, e2⟩ | ⟨s, hl, hs, _, _, _, _, hk, e2⟩ <;> rw [e2]
    · exact .inr ⟨fun h => hc h.1, rfl⟩
    · exact .inl ⟨⟨rfl, k1⟩, rfl, drained_last _ _⟩
  · rcases resize_cases (t.tick o.at_) o with ⟨c, hc, e2⟩ | ⟨x, hl, hf, hcn, _, _, hk, e2⟩ <;> rw [e2]
    · exact .inr ⟨fun h => hc h.1, rfl⟩
    · exact .inr ⟨fun h => by omega, drained_last _ _⟩
  · rcases remove_cases (t.tick o.at_) o with ⟨c, hc, e2⟩ | ⟨x, t1, hf, hcn, e3, e2⟩ <;> rw [e2]
    · exact .inr ⟨fun h => hc h.1, rfl⟩
    · exact .inr ⟨fun h => by omega, by rw [e3]; rfl⟩
  · rcases bind_cases (t.tick o.at_) o with ⟨c, hc, e2⟩ | ⟨x, _, hf, _, _, _, e2⟩ <;> rw [e2]
    · exact .inr ⟨fun h => hc h.1, rfl⟩
    · exact .inr ⟨fun h => by omega, rfl⟩
theorem gone_setNd {l : List Nd} {id x : Int} {f : Nd → Nd} (hf : ∀ y, (f y).id = y.id) (h : ∀ y ∈ l, y.id ≠ x) : ∀ y ∈ setNd l id f, y.id ≠ x := by
  intro y hy
  obtain ⟨z, hz, ⟨_, e⟩ | ⟨_, e⟩⟩ := setNd_mem hy
  · rw [e]; exact h z hz
  · rw [e, hf]; exact h z hz
/-- What is gone stays gone. -/
theorem GoneP.step {t : TreeV} {x : Int} (h : GoneP t x) (o : OrdV) : GoneP (t.apply o).1 x := by
  obtain ⟨h1, h2, h3⟩ := h
  have hn := find_none.1 h3
  refine ⟨h1, ?_, find_none.2 ?_⟩
  · rcases last_step t o with ⟨_, _, e⟩ | ⟨_, e⟩ <;> rw [e] <;> omega
  rcases apply_cases t o with ⟨e, _⟩ | ⟨a0, a1, hc⟩
  · rw [e]; exact hn
  rcases hc with ⟨k1, e⟩ | ⟨k1, e⟩ | ⟨k1, e⟩ | ⟨k1, e⟩ <;> rw [e]
  · rcases create_cases (t.tick o.at_) o with ⟨c, hc, e2⟩ | ⟨s, hl, hs, _, _, _, _, hk, e2⟩ <;> rw [e2]
    · exact hn
    · rw [drained_nodes]
      intro y hy
      rcases List.mem_append.1 (show y ∈ t.nodes ++ [_] from hy) with hy | hy
      · exact hn y hy
      · rw [List.mem_singleton.1 hy]
        show t.last + 1 ≠ x
        omega
  · rcases resize_cases (t.tick o.at_) o with ⟨c, hc, e2⟩ | ⟨z, hl, hf, hcn, _, _, hk, e2⟩ <;> rw [e2]
    · exact hn
    · rw [drained_nodes]
      exact gone_setNd (fun _ => rfl) hn
  · rcases remove_cases (t.tick o.at_) o with ⟨c, hc, e2⟩ | ⟨z, t1, hf, hcn, e3, e2⟩ <;> rw [e2]
    · exact hn
    · rw [e3]
      exact fun y hy => hn y (List.mem_filter.1 hy).1
  · rcases bind_cases (t.tick o.at_) o with ⟨c, hc, e2⟩ | ⟨z, _, hf, _, _, _, e2⟩ <;> rw [e2]
    · exact hn
    · exact gone_setNd (fun _ => rfl) hn
/-- What an order deletes is gone. -/
theorem gone_del {n : Nat} {t : TreeV} (hS : Sane n t) {o : OrdV} (hk : o.kd = 3) (hd : (t.apply o).2.1 = 0) : GoneP (t.apply o).1 (t.apply o).2.2 := by
  rcases apply_cases t o with ⟨e, _⟩ | ⟨a0, a1, hc⟩
  · rw [e] at hd; cases hd
  rcases hc with ⟨k1, e⟩ | ⟨k1, e⟩ | ⟨k1, e⟩ | ⟨k1, e⟩
  · omega
  · omega
  · rw [e] at hd ⊢
    rcases remove_cases (t.tick o.at_) o with ⟨c, hc, e2⟩ | ⟨z, t1, hf, hcn, e3, e2⟩ <;> rw [e2] at hd ⊢
    · exact absurd hd hc
    · have hf2 : t.find o.id = some z := hf
      obtain ⟨hm, hid⟩ := find_mem hf2
      have := hS.lw z hm
      refine ⟨by dsimp only; omega, by rw [e3]; show o.id ≤ t.last; omega, find_none.2 ?_⟩
      rw [e3]
      exact fun y hy => by simpa using (List.mem_filter.1 hy).2
  · omega
/-- Each node hangs below one that is there. -/
theorem par_there {t : TreeV} (h : Fit t) {x : Nd} (hx : x ∈ t.nodes) : x.par = 0 ∨ (t.find x.par).isSome = true := by
  rcases h.up x hx with h1 | ⟨y, hy, e⟩
  · exact .inl h1
  · refine .inr ?_
    cases hf : t.find x.par with
    | some z => rfl
    | none => exact absurd e (find_none.1 hf y hy)
end Go.Proofs.YtanfgipanfjcoaaGreatDoor
