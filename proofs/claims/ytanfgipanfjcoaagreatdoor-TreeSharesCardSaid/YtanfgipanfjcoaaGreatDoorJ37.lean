/- The trees that orders make: what a done order leaves behind. -/
import Derived.Test.YtanfgipanfjcoaaGreatDoorJ34
namespace Go.Proofs.YtanfgipanfjcoaaGreatDoor
open Go.RowKit

/-- Time never goes back. -/
theorem apply_now {n : Nat} {t : TreeV} (hS : Sane n t) (hL : Live t) (o : OrdV) : t.now ≤ (t.apply o).1.now := by
  by_cases h : (t.apply o).2.1 = 0
  · rw [(apply_yes hS o h).2]
    omega
  · exact (refused_ghosts hL h).2.2.2.1
theorem live_apply {n : Nat} {t : TreeV} (hS : Sane n t) (h : Fit t) (hL : Live t) (o : OrdV) {U : TreeV} (hU : U = (t.apply o).1) {j : Nat} {g : Gh} (hg : U.ghosts[j]? = some g) : U.now < g.till := by
  have := hL.step hS h o
  rw [← hU] at this
  exact this g (List.mem_of_getElem? hg)
theorem counted_till (t : TreeV) (G : List Gh) (p : Int) (s : Srv) (m m' : Int) (q : Int) : ({t with ghosts := G ++ [(⟨p, s, m⟩ : Gh)]} : TreeV).counted q = ({t with ghosts := G ++ [(⟨p, s, m'⟩ : Gh)]} : TreeV).counted q := by
  unfold TreeV.counted
  dsimp only
  rw [List.filter_append, List.filter_append, List.filter_cons, List.filter_cons]
  dsimp only
  by_cases hq : p = q
  · rw [decide_eq_true hq, if_pos rfl, if_pos rfl, List.map_append, List.map_append]; rfl
  · rw [decide_eq_false hq, if_neg (by decide), if_neg (by decide)]
/-- The node below which a done order counted. -/
def parI (t : TreeV) (o : OrdV) : Int := if o.kd = 1 then o.id else ((t.find o.id).map (·.par)).getD 0
/-- Behind a done order all that is counted fits, and its ghosts stay as long as they must. -/
theorem done_ghosts {n : Nat} {t : TreeV} (hS : Sane n t) (h : Fit t) {o : OrdV} (hk : o.kd ≠ 4) (hd : (t.apply o).2.1 = 0) {U : TreeV} (hU : U = (t.apply o).1) {p : Int} (hp : p = parI t o) :
    kidsErr ((U.server p).getD rootS) (U.counted p) = none ∧ (o.kd ≠ 1 → (t.find o.id).isSome) ∧ ∀ (j : Nat) (g : Gh), U.ghosts[j]? = some g → g.par = p → (o.kd ≠ 3 ∨ j + 1 = U.ghosts.length) → U.now + drainI ((U.server p).getD rootS) (U.counted p) ≤ g.till := by
  rcases apply_cases t o with ⟨e, _⟩ | ⟨a0, a1, hc⟩
  · rw [e] at hd; cases hd
  have u := hS.tick (a := o.at_) a1
  have hF : Fit (t.tick o.at_) := h.less rfl rfl List.filter_sublist
  have drn : ∀ (t2 : TreeV) (q : Int), Fit t2 → (q = 0 ∨ ∃ y ∈ t2.nodes, y.id = q) → U = t2.drained q → q = p → kidsErr ((U.server p).getD rootS) (U.counted p) = none ∧ ∀ (j : Nat) (g : Gh), U.ghosts[j]? = some g → g.par = p → U.now + drainI ((U.server p).getD rootS) (U.counted p) ≤ g.till := by
    intro t2 q hF2 hq e1 e2
    subst e2
    have hk2 := hF2.at hq
    rw [e1, drained_server, drained_counted, drained_now]
    refine ⟨hk2, fun j g hg hgp => ?_⟩
    obtain ⟨f, h1, h2, h3⟩ := drained_at t2 q
    rw [h2] at hg
    obtain ⟨z, hz, rfl⟩ := List.mem_map.1 (List.mem_of_getElem? hg)
    exact h3 hk2 z (by rw [← (h1 z).1]; exact hgp)
  rcases hc with ⟨k1, e⟩ | ⟨k1, e⟩ | ⟨k1, e⟩ | ⟨k1, e⟩
  · rw [e] at hd hU
    rcases create_cases (t.tick o.at_) o with ⟨c, hc, e2⟩ | ⟨s, hl, hs, _, _, _, _, hk, e2⟩ <;> rw [e2] at hd hU
    · exact absurd hd hc
    · have hpo : o.id = p := by rw [hp]; unfold parI; rw [if_pos k1]
      have := drn _ o.id (hF.create u hl hs hk) (by
        rcases server_at hs with ⟨h1, _⟩ | ⟨_, y, hf, _⟩
        · exact .inl h1
        · obtain ⟨hm, e⟩ := find_mem hf
          exact .inr ⟨y, List.mem_append_left _ hm, e⟩) hU hpo
      exact ⟨this.1, fun hn => absurd k1 hn, fun j g hg hgp _ => this.2 j g hg hgp⟩
  · rw [e] at hd hU
    rcases resize_cases (t.tick o.at_) o with ⟨c, hc, e2⟩ | ⟨x, hl, hf, hcn, _, _, hk, e2⟩ <;> rw [e2] at hd hU
    · exact absurd hd hc
    · have hf2 : t.find o.id = some x := hf
      have hpo : x.par = p := by rw [hp]; unfold parI; rw [if_neg (by omega), hf2]; rfl
      have := drn _ x.par (hF.resize u hl hf hcn hk) (par_resize hF (fun _ => rfl) hf) hU hpo
      exact ⟨this.1, fun _ => by rw [hf2]; rfl, fun j g hg hgp _ => this.2 j g hg hgp⟩
  · rw [e] at hd hU
    rcases remove_cases (t.tick o.at_) o with ⟨c, hc, e2⟩ | ⟨x, t1, hf, hcn, e3, e2⟩ <;> rw [e2] at hd hU
    · exact absurd hd hc
    · have hf2 : t.find o.id = some x := hf
      have hpo : x.par = p := by rw [hp]; unfold parI; rw [if_neg (by omega), hf2]; rfl
      have hF1 : Fit t1 := by rw [e3]; exact hF.remove u hf hcn 0
      have hk1 : kidsErr ((t1.server x.par).getD rootS) (t1.counted x.par) = none := hF1.at (by rw [e3]; exact par_remove u hF hf)
      rw [if_pos hk1] at hU
      have hsv : ∀ q, U.server q = t1.server q := fun q => by rw [hU]; rfl
      have hcn2 : ∀ q, U.counted q = t1.counted q := fun q => by
        rw [hU, e3]
        exact counted_till _ _ _ _ _ _ _
      rw [hsv, hcn2, ← hpo]
      refine ⟨hk1, fun _ => by rw [hf2]; rfl, fun j g hg hgp hlast => ?_⟩
      rcases hlast with h3 | h3
      · exact absurd k1 h3
      · have hgl : g = (⟨x.par, x.srv, (t.tick o.at_).now + drainI ((t1.server x.par).getD rootS) (t1.counted x.par)⟩ : Gh) := by
          rw [hU] at hg h3
          dsimp only at hg h3
          rw [List.length_append] at h3
          rw [List.getElem?_append_right (by simp at h3; omega)] at hg
          simp at h3
          rw [h3, Nat.sub_self] at hg
          exact (Option.some.inj hg).symm
        rw [hgl, hU, e3]
        exact Int.le_refl _
  · rw [e] at hd hU
    rcases bind_cases (t.tick o.at_) o with ⟨c, hc, e2⟩ | ⟨x, _, hf, _, _, _, e2⟩ <;> rw [e2] at hd hU
    · exact absurd hd hc
    · exact absurd k1 hk
end Go.Proofs.YtanfgipanfjcoaaGreatDoor
