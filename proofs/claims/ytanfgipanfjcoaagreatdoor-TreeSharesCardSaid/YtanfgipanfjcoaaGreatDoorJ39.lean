/- The trees that orders make: depths and guests. -/
import Derived.Test.YtanfgipanfjcoaaGreatDoorJ38
import Derived.Test.YtanfgipanfjcoaaGreatDoorJ25
namespace Go.Proofs.YtanfgipanfjcoaaGreatDoor
open Go.RowKit

theorem depthF_congr {t t' : TreeV} (Q : Int → Prop) (h : ∀ y, Q y → (t'.find y).map (·.par) = (t.find y).map (·.par)) (hq : ∀ y z, Q y → t.find y = some z → Q z.par) : ∀ (n : Nat) (id d : Int), Q id → t'.depthF n id d = t.depthF n id d := by
  intro n
  induction n with
  | zero => intro id d _; rfl
  | succ n ih =>
    intro id d hid
    unfold TreeV.depthF
    by_cases h0 : id = 0
    · rw [if_pos h0, if_pos h0]
    · rw [if_neg h0, if_neg h0]
      have h1 := h id hid
      cases hf : t.find id with
      | none =>
        rw [hf] at h1
        cases hf' : t'.find id with
        | none => rfl
        | some z => rw [hf'] at h1; cases h1
      | some z =>
        rw [hf] at h1
        cases hf' : t'.find id with
        | none => rw [hf'] at h1; cases h1
        | some z' =>
          rw [hf'] at h1
          have h2 : z'.par = z.par := Option.some.inj h1
          show t'.depthF n z'.par (d + 1) = t.depthF n z.par (d + 1)
          rw [h2]
          exact ih _ _ (hq _ _ hid hf)
theorem depthF_shift (t : TreeV) : ∀ (n : Nat) (id d : Int), 0 ≤ d → (t.depthF n id d = -1 ∧ t.depthF n id (d + 1) = -1) ∨ (d ≤ t.depthF n id d ∧ t.depthF n id (d + 1) = t.depthF n id d + 1) := by
  intro n
  induction n with
  | zero => intro id d _; exact .inl ⟨rfl, rfl⟩
  | succ n ih =>
    intro id d hd
    unfold TreeV.depthF
    by_cases h0 : id = 0
    · rw [if_pos h0, if_pos h0]; exact .inr ⟨Int.le_refl _, rfl⟩
    · rw [if_neg h0, if_neg h0]
      cases hf : t.find id with
      | none => exact .inl ⟨rfl, rfl⟩
      | some z =>
        dsimp only
        rcases ih z.par (d + 1) (by omega) with ⟨h1, h2⟩ | ⟨h1, h2⟩
        · exact .inl ⟨h1, h2⟩
        · exact .inr ⟨by omega, h2⟩
/-- Depths and guests. -/
structure Shares (t : TreeV) : Prop where
  dp : ∀ x ∈ t.nodes, 1 ≤ t.depth x.id ∧ t.depth x.id ≤ 4
  gs : ∀ x ∈ t.nodes, x.pol ≠ 0 → guestErr x.srv x.pol x.tasks = none ∧ t.counted x.id = []
theorem Shares.zero : Shares ⟨[], [], 0, 0⟩ := ⟨fun _ h => (by cases h), fun _ h => (by cases h)⟩
theorem depth_nodes {t t' : TreeV} (h : t'.nodes = t.nodes) (id : Int) : t'.depth id = t.depth id := by
  unfold TreeV.depth
  exact depthF_congr (fun _ => True) (fun y _ => by unfold TreeV.find; rw [h]) (fun _ _ _ _ => trivial) _ _ _ trivial
/-- Fewer ghosts, or such that stay longer. -/
theorem Shares.less {t t' : TreeV} (h : Shares t) (hn : t'.nodes = t.nodes) (hc : ∀ p, t.counted p = [] → t'.counted p = []) : Shares t' := by
  refine ⟨fun x hx => ?_, fun x hx hp => ?_⟩
  · rw [depth_nodes hn]
    exact h.dp x (by rw [← hn]; exact hx)
  · obtain ⟨h1, h2⟩ := h.gs x (by rw [← hn]; exact hx) hp
    exact ⟨h1, hc _ h2⟩
theorem Shares.tick {t : TreeV} (h : Shares t) (a : Int) : Shares (t.tick a) := h.less rfl (fun p hp => by
  obtain ⟨h1, h2⟩ := counted_no hp
  exact counted_nil h1 (fun g hg => h2 g (List.mem_filter.1 hg).1))
theorem Shares.drained {t : TreeV} (h : Shares t) (p : Int) : Shares (t.drained p) := h.less (drained_nodes _ _) (fun q hq => by rw [drained_counted]; exact hq)
theorem find_old {t : TreeV} {y : Int} {x : Nd} (hx : x.id = t.last + 1) (hy : y ≤ t.last) : ({t with last := t.last + 1, nodes := t.nodes ++ [x]} : TreeV).find y = t.find y := by
  unfold TreeV.find
  dsimp only
  rw [List.find?_append]
  cases t.nodes.find? fun n => decide (n.id = y) with
  | some z => rfl
  | none =>
    rw [List.find?_cons, decide_eq_false (by omega)]
    rfl
theorem Shares.create {n : Nat} {t : TreeV} (hS : Sane n t) (h : Shares t) {o : OrdV} {s : Srv} (hs : t.server o.id = some s) (hp : ((t.find o.id).map (·.pol)).getD 0 = 0) (hd : t.depth o.id < 4) : Shares {t with last := t.last + 1, nodes := t.nodes ++ [(⟨t.last + 1, o.id, o.srv, 0, []⟩ : Nd)]} := by
  obtain ⟨b0, b1⟩ := hS.below hs
  have hlow : ∀ x ∈ ({t with last := t.last + 1, nodes := t.nodes ++ [(⟨t.last + 1, o.id, o.srv, 0, []⟩ : Nd)]} : TreeV).nodes, 0 ≤ x.par ∧ x.par < x.id := fun x hx => by
    rcases List.mem_append.1 (show x ∈ t.nodes ++ [_] from hx) with hx | hx
    · have := hS.lw x hx; omega
    · rw [List.mem_singleton.1 hx]; dsimp only; omega
  have hdold : ∀ id d m, id ≤ t.last → ({t with last := t.last + 1, nodes := t.nodes ++ [(⟨t.last + 1, o.id, o.srv, 0, []⟩ : Nd)]} : TreeV).depthF m id d = t.depthF m id d := fun id d m hid =>
    depthF_congr (fun y => y ≤ t.last) (fun y hy => by rw [find_old rfl hy]) (fun y z hy hf => by have := hS.lw z (find_mem hf).1; omega) _ _ _ hid
  have hd0 : 0 ≤ t.depth o.id := by
    rcases server_at hs with ⟨h1, _⟩ | ⟨_, y, hf, _⟩
    · rw [h1]; exact Int.le_refl _
    · obtain ⟨hm, e⟩ := find_mem hf
      have := (h.dp y hm).1
      rw [e] at this
      omega
  refine ⟨fun x hx => ?_, fun x hx hpx => ?_⟩
  · rcases List.mem_append.1 (show x ∈ t.nodes ++ [_] from hx) with hx | hx
    · have h1 := h.dp x hx
      unfold TreeV.depth at h1 ⊢
      rw [hdold _ _ _ (hS.lw x hx).2.2]
      exact h1
    · rw [List.mem_singleton.1 hx]
      dsimp only
      have hfn : ({t with last := t.last + 1, nodes := t.nodes ++ [(⟨t.last + 1, o.id, o.srv, 0, []⟩ : Nd)]} : TreeV).find (t.last + 1) = some ⟨t.last + 1, o.id, o.srv, 0, []⟩ := by
        unfold TreeV.find
        dsimp only
        rw [List.find?_append]
        have : t.nodes.find? (fun n => decide (n.id = t.last + 1)) = none := List.find?_eq_none.2 (fun y hy => by have := hS.lw y hy; simp; omega)
        rw [this, List.find?_cons]
        simp
      unfold TreeV.depth
      rw [depth_step hlow (by have := hS.l0; omega) hfn]
      dsimp only
      rw [hdold _ _ _ b1]
      unfold TreeV.depth at hd hd0
      rcases depthF_shift t (o.id.toNat + 1) o.id 0 (Int.le_refl _) with ⟨h1, _⟩ | ⟨_, h2⟩
      · omega
      · rw [h2]; omega
  · rcases List.mem_append.1 (show x ∈ t.nodes ++ [_] from hx) with hx | hx
    · obtain ⟨h1, h2⟩ := h.gs x hx hpx
      obtain ⟨c1, c2⟩ := counted_no h2
      refine ⟨h1, counted_nil (fun y hy => ?_) c2⟩
      rcases List.mem_append.1 (show y ∈ t.nodes ++ [_] from hy) with hy | hy
      · exact c1 y hy
      · rw [List.mem_singleton.1 hy]
        show o.id ≠ x.id
        intro e
        have hf : t.find o.id = some x := by
          obtain ⟨y, hy2⟩ : ∃ y, t.find o.id = some y := by
            cases hf : t.find o.id with
            | none => exact absurd e.symm (find_none.1 hf x hx)
            | some y => exact ⟨y, rfl⟩
          obtain ⟨A, B, hN, hid, hot⟩ := find_split hS hy2
          rw [hN] at hx
          rcases List.mem_append.1 hx with hm | hm
          · exact absurd e.symm (hot x (List.mem_append_left _ hm))
          · rcases List.mem_cons.1 hm with hm | hm
            · rw [hy2, hm]
            · exact absurd e.symm (hot x (List.mem_append_right _ hm))
        rw [hf] at hp
        exact hpx hp
    · rw [List.mem_singleton.1 hx] at hpx
      exact absurd rfl hpx
theorem find_set_par {t : TreeV} {id y : Int} {f : Nd → Nd} (hf : ∀ x, (f x).id = x.id ∧ (f x).par = x.par) : (({t with nodes := setNd t.nodes id f} : TreeV).find y).map (·.par) = (t.find y).map (·.par) := by
  unfold TreeV.find
  dsimp only
  rw [find_setNd (fun x => (hf x).1), Option.map_map]
  congr 1
  funext z
  show (if z.id = id then f z else z).par = z.par
  split
  · exact (hf z).2
  · rfl
theorem depth_set {t t' : TreeV} {id : Int} {f : Nd → Nd} (hf : ∀ x, (f x).id = x.id ∧ (f x).par = x.par) (hn : t'.nodes = setNd t.nodes id f) (y : Int) : t'.depth y = t.depth y := by
  unfold TreeV.depth
  exact depthF_congr (fun _ => True) (fun y _ => by rw [← find_set_par (t := t) (id := id) hf]; unfold TreeV.find; rw [hn]) (fun _ _ _ _ => trivial) _ _ _ trivial
theorem Shares.resize {n : Nat} {t : TreeV} (hS : Sane n t) (h : Shares t) {o : OrdV} {x : Nd} (hf : t.find o.id = some x) (hp : x.pol = 0) (m : Int) : Shares {t with nodes := setNd t.nodes o.id fun n => {n with srv := o.srv}, ghosts := t.ghosts ++ [(⟨x.par, x.srv, m⟩ : Gh)]} := by
  obtain ⟨A, B, hN, hid, hot⟩ := find_split hS hf
  obtain ⟨hm, _⟩ := find_mem hf
  refine ⟨fun y hy => ?_, fun y hy hpy => ?_⟩
  · rw [depth_set (t := t) (id := o.id) (f := fun n => {n with srv := o.srv}) (fun _ => ⟨rfl, rfl⟩) rfl]
    obtain ⟨z, hz, ⟨_, e⟩ | ⟨_, e⟩⟩ := setNd_mem hy <;> (rw [e]; exact h.dp z hz)
  · have hset : setNd t.nodes o.id (fun n => {n with srv := o.srv}) = A ++ ({x with srv := o.srv} : Nd) :: B := by rw [hN]; exact set_split hid hot
    have hy2 : y ∈ t.nodes ∧ y.id ≠ o.id := by
      rw [show ({t with nodes := setNd t.nodes o.id fun n => {n with srv := o.srv}, ghosts := t.ghosts ++ [(⟨x.par, x.srv, m⟩ : Gh)]} : TreeV).nodes = setNd t.nodes o.id (fun n => {n with srv := o.srv}) from rfl, hset] at hy
      rw [hN]
      rcases List.mem_append.1 hy with hy | hy
      · exact ⟨List.mem_append_left _ hy, hot y (List.mem_append_left _ hy)⟩
      · rcases List.mem_cons.1 hy with hy | hy
        · rw [hy] at hpy; exact absurd hp hpy
        · exact ⟨List.mem_append_right _ (List.mem_cons_of_mem _ hy), hot y (List.mem_append_right _ hy)⟩
    obtain ⟨h1, h2⟩ := h.gs y hy2.1 hpy
    obtain ⟨c1, c2⟩ := counted_no h2
    refine ⟨h1, counted_nil (fun z hz => ?_) (fun g hg => ?_)⟩
    · obtain ⟨v, hv, ⟨_, e⟩ | ⟨_, e⟩⟩ := setNd_mem hz <;> (rw [e]; exact c1 v hv)
    · rcases List.mem_append.1 (show g ∈ t.ghosts ++ [_] from hg) with hg | hg
      · exact c2 g hg
      · rw [List.mem_singleton.1 hg]
        exact c1 x hm
theorem Shares.remove {t : TreeV} (h : Shares t) {o : OrdV} {x : Nd} (hf : t.find o.id = some x) (hc : t.counted o.id = []) (m : Int) : Shares {t with nodes := t.nodes.filter fun x => decide (x.id ≠ o.id), ghosts := t.ghosts ++ [(⟨x.par, x.srv, m⟩ : Gh)]} := by
  obtain ⟨hm, _⟩ := find_mem hf
  obtain ⟨d1, d2⟩ := counted_no hc
  have hfd : ∀ y, y ≠ o.id → ({t with nodes := t.nodes.filter fun x => decide (x.id ≠ o.id), ghosts := t.ghosts ++ [(⟨x.par, x.srv, m⟩ : Gh)]} : TreeV).find y = t.find y := fun y hy => by
    unfold TreeV.find
    dsimp only
    rw [List.find?_filter]
    congr 1
    funext a
    by_cases ha : a.id = y
    · rw [decide_eq_true ha, decide_eq_true (p := a.id ≠ o.id) (by omega)]; decide
    · rw [decide_eq_false ha]; simp
  refine ⟨fun y hy => ?_, fun y hy hpy => ?_⟩
  · obtain ⟨hy1, hy2⟩ := List.mem_filter.1 (show y ∈ t.nodes.filter _ from hy)
    have hyo : y.id ≠ o.id := by simpa using hy2
    have h1 := h.dp y hy1
    unfold TreeV.depth at h1 ⊢
    rw [depthF_congr (t := t) (fun z => z ≠ o.id) (fun z hz => by rw [hfd z hz]) (fun z v hz hv => d1 v (find_mem hv).1) _ _ _ hyo]
    exact h1
  · obtain ⟨hy1, hy2⟩ := List.mem_filter.1 (show y ∈ t.nodes.filter _ from hy)
    obtain ⟨h1, h2⟩ := h.gs y hy1 hpy
    obtain ⟨c1, c2⟩ := counted_no h2
    refine ⟨h1, counted_nil (fun z hz => c1 z (List.mem_filter.1 hz).1) (fun g hg => ?_)⟩
    rcases List.mem_append.1 (show g ∈ t.ghosts ++ [_] from hg) with hg | hg
    · exact c2 g hg
    · rw [List.mem_singleton.1 hg]
      exact c1 x hm
theorem Shares.bind {n : Nat} {t : TreeV} (hS : Sane n t) (h : Shares t) {o : OrdV} {x : Nd} (hf : t.find o.id = some x) (hc : t.counted o.id = []) (hg : guestErr x.srv o.pol o.tasks = none) : Shares {t with nodes := setNd t.nodes o.id fun n => {n with pol := o.pol, tasks := o.tasks}} := by
  obtain ⟨A, B, hN, hid, hot⟩ := find_split hS hf
  have hcn : ∀ p, t.counted p = [] → ({t with nodes := setNd t.nodes o.id fun n => {n with pol := o.pol, tasks := o.tasks}} : TreeV).counted p = [] := fun p hp => by
    obtain ⟨c1, c2⟩ := counted_no hp
    refine counted_nil (fun z hz => ?_) c2
    obtain ⟨v, hv, ⟨_, e⟩ | ⟨_, e⟩⟩ := setNd_mem hz <;> (rw [e]; exact c1 v hv)
  refine ⟨fun y hy => ?_, fun y hy hpy => ?_⟩
  · rw [depth_set (t := t) (id := o.id) (f := fun n => {n with pol := o.pol, tasks := o.tasks}) (fun _ => ⟨rfl, rfl⟩) rfl]
    obtain ⟨z, hz, ⟨_, e⟩ | ⟨_, e⟩⟩ := setNd_mem hy <;> (rw [e]; exact h.dp z hz)
  · have hset : setNd t.nodes o.id (fun n => {n with pol := o.pol, tasks := o.tasks}) = A ++ ({x with pol := o.pol, tasks := o.tasks} : Nd) :: B := by rw [hN]; exact set_split hid hot
    rw [show ({t with nodes := setNd t.nodes o.id fun n => {n with pol := o.pol, tasks := o.tasks}} : TreeV).nodes = setNd t.nodes o.id (fun n => {n with pol := o.pol, tasks := o.tasks}) from rfl, hset] at hy
    rcases List.mem_append.1 hy with hy | hy
    · obtain ⟨h1, h2⟩ := h.gs y (by rw [hN]; exact List.mem_append_left _ hy) hpy
      exact ⟨h1, hcn _ h2⟩
    · rcases List.mem_cons.1 hy with hy | hy
      · rw [hy]
        exact ⟨hg, hcn _ (by show t.counted x.id = []; rw [hid]; exact hc)⟩
      · obtain ⟨h1, h2⟩ := h.gs y (by rw [hN]; exact List.mem_append_right _ (List.mem_cons_of_mem _ hy)) hpy
        exact ⟨h1, hcn _ h2⟩
theorem Shares.step {n : Nat} {t : TreeV} (hS : Sane n t) (hF0 : Fit t) (h : Shares t) (o : OrdV) : Shares (t.apply o).1 := by
  rcases apply_cases t o with ⟨e, _⟩ | ⟨a0, a1, hc⟩
  · rw [e]; exact h
  have u := hS.tick (a := o.at_) a1
  have hF : Fit (t.tick o.at_) := hF0.less rfl rfl List.filter_sublist
  have hT := h.tick o.at_
  rcases hc with ⟨_, e⟩ | ⟨_, e⟩ | ⟨_, e⟩ | ⟨_, e⟩ <;> rw [e]
  · rcases create_cases (t.tick o.at_) o with ⟨c, _, e2⟩ | ⟨s, hl, hs, hp, hd, _, _, hk, e2⟩ <;> rw [e2]
    · exact hT
    · exact (hT.create u hs hp hd).drained _
  · rcases resize_cases (t.tick o.at_) o with ⟨c, _, e2⟩ | ⟨x, hl, hf, hcn, hp, _, hk, e2⟩ <;> rw [e2]
    · exact hT
    · exact (hT.resize u hf hp 0).drained _
  · rcases remove_cases (t.tick o.at_) o with ⟨c, _, e2⟩ | ⟨x, t1, hf, hcn, e3, e2⟩ <;> rw [e2]
    · exact hT
    · have := hT.remove hf hcn (if kidsErr ((t1.server x.par).getD rootS) (t1.counted x.par) = none then (t.tick o.at_).now + drainI ((t1.server x.par).getD rootS) (t1.counted x.par) else 0)
      rw [e3] at this ⊢
      exact this
  · rcases bind_cases (t.tick o.at_) o with ⟨c, _, e2⟩ | ⟨x, _, hf, hcn, _, hg, e2⟩ <;> rw [e2]
    · exact hT
    · exact hT.bind u hf hcn hg
theorem shares_made (l : List OrdV) : Shares (madeV l) := by
  have key : ∀ (l : List OrdV) (n : Nat) (t : TreeV), Sane n t → Fit t → Shares t → Shares (l.foldl (fun t o => (t.apply o).1) t) := by
    intro l
    induction l with
    | nil => intro n t _ _ h; exact h
    | cons o r ih => intro n t hS hF h; exact ih (n + 1) _ (hS.step o) (hF.step hS o) (h.step hS hF o)
  exact key l 0 _ Sane.zero Fit.zero Shares.zero
end Go.Proofs.YtanfgipanfjcoaaGreatDoor
