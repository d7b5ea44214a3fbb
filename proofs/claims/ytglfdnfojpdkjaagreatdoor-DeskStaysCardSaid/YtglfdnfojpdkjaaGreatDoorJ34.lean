/- The trees that orders make: plain laws. -/
import Derived.Test.YtglfdnfojpdkjaaGreatDoorJ23
import Derived.Test.YtglfdnfojpdkjaaGreatDoorJ1
namespace Go.Proofs.YtglfdnfojpdkjaaGreatDoor
open Go.RowKit

theorem sumI_perm {α : Type} (f : α → Int) {l m : List α} (h : l.Perm m) : sumI f l = sumI f m := by
  induction h with
  | nil => rfl
  | cons x _ ih => rw [sumI_cons, sumI_cons, ih]
  | swap x y l => rw [sumI_cons, sumI_cons, sumI_cons, sumI_cons]; omega
  | trans _ _ ih1 ih2 => rw [ih1, ih2]
theorem demI_perm {l m : List Srv} (h : l.Perm m) : demI l = demI m := by
  funext i
  exact sumI_perm _ h
theorem stepsL_perm {l m : List Srv} (h : l.Perm m) (n : Nat) : stepsL l n = stepsL m n := by
  induction n with
  | zero => rfl
  | succ n ih =>
    unfold stepsL
    rw [ih, demI_perm h]
theorem all_perm {α : Type} {p : α → Bool} {l m : List α} (h : l.Perm m) : l.all p = m.all p := by
  induction h with
  | nil => rfl
  | cons x _ ih => rw [List.all_cons, List.all_cons, ih]
  | swap x y l => rw [List.all_cons, List.all_cons, List.all_cons, List.all_cons, ← Bool.and_assoc, ← Bool.and_assoc, Bool.and_comm (p y)]
  | trans _ _ ih1 ih2 => rw [ih1, ih2]
theorem srvErr_perm {l m : List Srv} (h : l.Perm m) : srvErr l = srvErr m := by
  unfold srvErr allLeg
  rw [all_perm h, h.length_eq]
/-- In any order they fit alike. -/
theorem kids_perm {s : Srv} {l m : List Srv} (h : l.Perm m) : kidsErr s l = kidsErr s m := by
  have h1 : sumQ l = sumQ m := sumI_perm _ h
  unfold kidsErr kidsB
  rw [srvErr_perm h, shareS_perm h, h1, stepsL_perm h, demI_perm h]
/-- Fewer of them fit too. -/
theorem kids_sub {s : Srv} {l m : List Srv} (h : m.Sublist l) (hk : kidsErr s l = none) : kidsErr s m = none := by
  have key : ∀ (l m : List Srv), m.Sublist l → ∀ a : List Srv, kidsErr s (a ++ l) = none → kidsErr s (a ++ m) = none := by
    intro l m h
    induction h with
    | slnil => intro a hk; exact hk
    | cons x _ ih => intro a hk; exact ih a (kids_fewer hk)
    | cons_cons x _ ih =>
      intro a hk
      have h1 := ih (a ++ [x]) (by simpa using hk)
      simpa using h1
  exact key l m h [] hk
/-- What holds of every tree that orders make. -/
structure Sane (n : Nat) (t : TreeV) : Prop where
  l0 : 0 ≤ t.last
  l1 : t.last ≤ n
  n0 : 0 ≤ t.now
  n1 : t.now ≤ 1099511627776
  st : t.nodes.Pairwise fun x y => x.id < y.id
  lw : ∀ x ∈ t.nodes, 0 ≤ x.par ∧ x.par < x.id ∧ x.id ≤ t.last
  nl : t.nodes.length ≤ n
  gl : t.ghosts.length ≤ n
theorem Sane.zero : Sane 0 ⟨[], [], 0, 0⟩ := ⟨by simp, by simp, by simp, by simp, .nil, by simp, by simp, by simp⟩
theorem Sane.more {n m : Nat} {t : TreeV} (h : Sane n t) (hm : n ≤ m) : Sane m t := ⟨h.l0, by have := h.l1; omega, h.n0, h.n1, h.st, h.lw, by have := h.nl; omega, by have := h.gl; omega⟩
theorem drained_at (t : TreeV) (p : Int) : ∃ f : Gh → Gh, (∀ g, (f g).par = g.par ∧ (f g).srv = g.srv ∧ g.till ≤ (f g).till) ∧ t.drained p = {t with ghosts := t.ghosts.map f} ∧ (kidsErr ((t.server p).getD rootS) (t.counted p) = none → ∀ g, g.par = p → t.now + drainI ((t.server p).getD rootS) (t.counted p) ≤ (f g).till) := by
  unfold TreeV.drained
  dsimp only
  by_cases hk : kidsErr ((t.server p).getD rootS) (t.counted p) = none
  · rw [if_pos hk]
    refine ⟨fun g => if g.par = p then {g with till := max g.till (t.now + drainI ((t.server p).getD rootS) (t.counted p))} else g, fun g => ?_, rfl, fun _ g hg => ?_⟩
    · dsimp only
      split
      · exact ⟨rfl, rfl, by dsimp only; omega⟩
      · exact ⟨rfl, rfl, Int.le_refl _⟩
    · dsimp only
      rw [if_pos hg]
      dsimp only
      omega
  · rw [if_neg hk]
    exact ⟨id, fun g => ⟨rfl, rfl, Int.le_refl _⟩, by simp, fun h => absurd h hk⟩
theorem create_cases (t : TreeV) (o : OrdV) : (∃ c, c ≠ 0 ∧ t.create o = (t, c, 0)) ∨ ∃ s, o.srv.leg = true ∧ t.server o.id = some s ∧ ((t.find o.id).map (·.pol)).getD 0 = 0 ∧ t.depth o.id < 4 ∧ t.nodes.length < 64 ∧ (t.counted o.id).length < 8 ∧ kidsErr s (t.counted o.id ++ [o.srv]) = none ∧ t.create o = (({t with last := t.last + 1, nodes := t.nodes ++ [(⟨t.last + 1, o.id, o.srv, 0, []⟩ : Nd)]} : TreeV).drained o.id, 0, t.last + 1) := by
  unfold TreeV.create
  cases h1 : o.srv.leg with
  | false => rw [if_pos rfl]; exact .inl ⟨7, by decide, rfl⟩
  | true =>
    rw [if_neg (by decide)]
    cases h2 : t.server o.id with
    | none => exact .inl ⟨1, by decide, rfl⟩
    | some s =>
      dsimp only
      by_cases h3 : ((t.find o.id).map (·.pol)).getD 0 ≠ 0
      · rw [if_pos h3]; exact .inl ⟨3, by decide, rfl⟩
      rw [if_neg h3]
      by_cases h4 : 4 ≤ t.depth o.id
      · rw [if_pos h4]; exact .inl ⟨6, by decide, rfl⟩
      rw [if_neg h4]
      by_cases h5 : 64 ≤ t.nodes.length ∨ 8 ≤ (t.counted o.id).length
      · rw [if_pos h5]; exact .inl ⟨5, by decide, rfl⟩
      rw [if_neg h5]
      by_cases h6 : kidsErr s (t.counted o.id ++ [o.srv]) ≠ none
      · rw [if_pos h6]; exact .inl ⟨4, by decide, rfl⟩
      rw [if_neg h6]
      exact .inr ⟨s, rfl, rfl, by simpa using h3, by omega, by omega, by omega, by simpa using h6, rfl⟩
theorem loose_cases (t : TreeV) (id : Int) : t.loose id ≠ 0 ∨ t.loose id = 0 ∧ ∃ x, t.find id = some x ∧ t.counted id = [] := by
  unfold TreeV.loose
  cases h1 : t.find id with
  | none => exact .inl (by simp)
  | some x =>
    dsimp only
    by_cases h2 : t.counted id ≠ []
    · rw [if_pos h2]; exact .inl (by decide)
    · rw [if_neg h2]; exact .inr ⟨rfl, x, rfl, by simpa using h2⟩
theorem resize_cases (t : TreeV) (o : OrdV) : (∃ c, c ≠ 0 ∧ t.resize o = (t, c, 0)) ∨ ∃ x, o.srv.leg = true ∧ t.find o.id = some x ∧ t.counted o.id = [] ∧ x.pol = 0 ∧ (t.counted x.par).length < 8 ∧ kidsErr ((t.server x.par).getD rootS) (t.counted x.par ++ [o.srv]) = none ∧ t.resize o = (({t with nodes := setNd t.nodes o.id fun n => {n with srv := o.srv}, ghosts := t.ghosts ++ [(⟨x.par, x.srv, 0⟩ : Gh)]} : TreeV).drained x.par, 0, o.id) := by
  unfold TreeV.resize
  cases h1 : o.srv.leg with
  | false => rw [if_pos rfl]; exact .inl ⟨7, by decide, rfl⟩
  | true =>
    rw [if_neg (by decide)]
    rcases loose_cases t o.id with h2 | ⟨h2, x, h3, h4⟩
    · rw [if_pos h2]; exact .inl ⟨_, h2, rfl⟩
    rw [if_neg (by rw [h2]; decide), h3]
    dsimp only
    by_cases h5 : x.pol ≠ 0
    · rw [if_pos h5]; exact .inl ⟨3, by decide, rfl⟩
    rw [if_neg h5]
    by_cases h6 : 8 ≤ (t.counted x.par).length
    · rw [if_pos h6]; exact .inl ⟨5, by decide, rfl⟩
    rw [if_neg h6]
    by_cases h7 : kidsErr ((t.server x.par).getD rootS) (t.counted x.par ++ [o.srv]) ≠ none
    · rw [if_pos h7]; exact .inl ⟨4, by decide, rfl⟩
    rw [if_neg h7]
    exact .inr ⟨x, rfl, rfl, h4, by simpa using h5, by omega, by simpa using h7, rfl⟩
theorem remove_cases (t : TreeV) (o : OrdV) : (∃ c, c ≠ 0 ∧ t.remove o = (t, c, 0)) ∨ ∃ x, ∃ t1 : TreeV, t.find o.id = some x ∧ t.counted o.id = [] ∧ t1 = {t with nodes := t.nodes.filter fun x => decide (x.id ≠ o.id), ghosts := t.ghosts ++ [(⟨x.par, x.srv, 0⟩ : Gh)]} ∧ t.remove o = ({t1 with ghosts := t.ghosts ++ [(⟨x.par, x.srv, if kidsErr ((t1.server x.par).getD rootS) (t1.counted x.par) = none then t.now + drainI ((t1.server x.par).getD rootS) (t1.counted x.par) else 0⟩ : Gh)]}, 0, o.id) := by
  unfold TreeV.remove
  rcases loose_cases t o.id with h2 | ⟨h2, x, h3, h4⟩
  · rw [if_pos h2]; exact .inl ⟨_, h2, rfl⟩
  rw [if_neg (by rw [h2]; decide), h3]
  exact .inr ⟨x, _, rfl, h4, rfl, rfl⟩
theorem bind_cases (t : TreeV) (o : OrdV) : (∃ c, c ≠ 0 ∧ t.bind o = (t, c, 0)) ∨ ∃ x, guestOk o.pol o.tasks = true ∧ t.find o.id = some x ∧ t.counted o.id = [] ∧ x.pol = 0 ∧ guestErr x.srv o.pol o.tasks = none ∧ t.bind o = ({t with nodes := setNd t.nodes o.id fun n => {n with pol := o.pol, tasks := o.tasks}}, 0, o.id) := by
  unfold TreeV.bind
  cases h1 : guestOk o.pol o.tasks with
  | false => rw [if_pos rfl]; exact .inl ⟨8, by decide, rfl⟩
  | true =>
    rw [if_neg (by decide)]
    rcases loose_cases t o.id with h2 | ⟨h2, x, h3, h4⟩
    · rw [if_pos h2]; exact .inl ⟨_, h2, rfl⟩
    rw [if_neg (by rw [h2]; decide), h3]
    dsimp only
    by_cases h5 : x.pol ≠ 0
    · rw [if_pos h5]; exact .inl ⟨3, by decide, rfl⟩
    rw [if_neg h5]
    by_cases h6 : guestErr x.srv o.pol o.tasks ≠ none
    · rw [if_pos h6]; exact .inl ⟨4, by decide, rfl⟩
    rw [if_neg h6]
    exact .inr ⟨x, rfl, rfl, h4, by simpa using h5, by simpa using h6, rfl⟩
/-- What an order that is refused makes. -/
theorem apply_cases (t : TreeV) (o : OrdV) : (t.apply o = (t, 7, 0) ∧ (o.kd < 1 ∨ 4 < o.kd ∨ o.at_ < 0 ∨ 1099511627776 < o.at_)) ∨ 0 ≤ o.at_ ∧ o.at_ ≤ 1099511627776 ∧ (o.kd = 1 ∧ t.apply o = (t.tick o.at_).create o ∨ o.kd = 2 ∧ t.apply o = (t.tick o.at_).resize o ∨ o.kd = 3 ∧ t.apply o = (t.tick o.at_).remove o ∨ o.kd = 4 ∧ t.apply o = (t.tick o.at_).bind o) := by
  unfold TreeV.apply
  by_cases h : o.kd < 1 ∨ 4 < o.kd ∨ o.at_ < 0 ∨ 1099511627776 < o.at_
  · rw [if_pos h]; exact .inl ⟨rfl, h⟩
  · rw [if_neg h]
    refine .inr ⟨by omega, by omega, ?_⟩
    dsimp only
    by_cases h1 : o.kd = 1
    · rw [if_pos h1]; exact .inl ⟨h1, rfl⟩
    rw [if_neg h1]
    by_cases h2 : o.kd = 2
    · rw [if_pos h2]; exact .inr (.inl ⟨h2, rfl⟩)
    rw [if_neg h2]
    by_cases h3 : o.kd = 3
    · rw [if_pos h3]; exact .inr (.inr (.inl ⟨h3, rfl⟩))
    rw [if_neg h3]
    exact .inr (.inr (.inr ⟨by omega, rfl⟩))
theorem Sane.tick {n : Nat} {t : TreeV} (h : Sane n t) {a : Int} (ha : a ≤ 1099511627776) : Sane n (t.tick a) := ⟨h.l0, h.l1, by have := h.n0; show 0 ≤ max t.now a; omega, by have := h.n1; show max t.now a ≤ _; omega, h.st, h.lw, h.nl, Nat.le_trans (List.length_filter_le ..) h.gl⟩
theorem find_mem {t : TreeV} {id : Int} {x : Nd} (h : t.find id = some x) : x ∈ t.nodes ∧ x.id = id := ⟨List.mem_of_find?_eq_some h, by have := List.find?_some h; simpa using this⟩
theorem Sane.drained {n : Nat} {t : TreeV} (h : Sane n t) (p : Int) : Sane n (t.drained p) := by
  obtain ⟨f, _, h2, _⟩ := drained_at t p
  rw [h2]
  exact ⟨h.l0, h.l1, h.n0, h.n1, h.st, h.lw, h.nl, by show (t.ghosts.map f).length ≤ n; rw [List.length_map]; exact h.gl⟩
theorem setNd_pw {l : List Nd} {id : Int} {f : Nd → Nd} (hf : ∀ x, (f x).id = x.id) (h : l.Pairwise fun x y => x.id < y.id) : (setNd l id f).Pairwise fun x y => x.id < y.id := by
  unfold setNd
  rw [List.pairwise_map]
  refine h.imp ?_
  intro a b hab
  have key : ∀ z : Nd, (if z.id = id then f z else z).id = z.id := fun z => by split; exact hf z; rfl
  rw [key, key]
  exact hab
theorem setNd_mem {l : List Nd} {id : Int} {f : Nd → Nd} {y : Nd} (h : y ∈ setNd l id f) : ∃ x ∈ l, (x.id ≠ id ∧ y = x) ∨ (x.id = id ∧ y = f x) := by
  unfold setNd at h
  obtain ⟨x, hx, rfl⟩ := List.mem_map.1 h
  by_cases h1 : x.id = id
  · exact ⟨x, hx, .inr ⟨h1, by rw [if_pos h1]⟩⟩
  · exact ⟨x, hx, .inl ⟨h1, by rw [if_neg h1]⟩⟩
theorem server_at {t : TreeV} {id : Int} {s : Srv} (h : t.server id = some s) : id = 0 ∧ s = rootS ∨ id ≠ 0 ∧ ∃ x, t.find id = some x ∧ s = x.srv := by
  unfold TreeV.server at h
  by_cases h0 : id = 0
  · rw [if_pos h0] at h; exact .inl ⟨h0, (Option.some.inj h).symm⟩
  · rw [if_neg h0] at h
    cases hf : t.find id with
    | none => rw [hf] at h; cases h
    | some x => rw [hf] at h; exact .inr ⟨h0, x, rfl, (Option.some.inj h).symm⟩
theorem Sane.below {n : Nat} {t : TreeV} (h : Sane n t) {id : Int} {s : Srv} (hs : t.server id = some s) : 0 ≤ id ∧ id ≤ t.last := by
  rcases server_at hs with ⟨rfl, _⟩ | ⟨_, x, hf, _⟩
  · exact ⟨by omega, h.l0⟩
  · obtain ⟨hm, rfl⟩ := find_mem hf
    have := h.lw x hm
    omega
/-- A node among the others. -/
theorem find_split {n : Nat} {t : TreeV} (h : Sane n t) {id : Int} {x : Nd} (hf : t.find id = some x) : ∃ A B, t.nodes = A ++ x :: B ∧ x.id = id ∧ ∀ y ∈ A ++ B, y.id ≠ id := by
  obtain ⟨hm, rfl⟩ := find_mem hf
  obtain ⟨A, B, e⟩ := List.append_of_mem hm
  refine ⟨A, B, e, rfl, fun y hy => ?_⟩
  have h1 := h.st
  rw [e, List.pairwise_append, List.pairwise_cons] at h1
  rcases List.mem_append.1 hy with hy | hy
  · have := h1.2.2 y hy x (by simp); omega
  · have := h1.2.1.1 y hy; omega
theorem set_split {A B : List Nd} {x : Nd} {id : Int} {f : Nd → Nd} (hx : x.id = id) (h : ∀ y ∈ A ++ B, y.id ≠ id) : setNd (A ++ x :: B) id f = A ++ f x :: B := by
  have key : ∀ l : List Nd, (∀ y ∈ l, y.id ≠ id) → l.map (fun n => if n.id = id then f n else n) = l := by
    intro l hl
    have h1 : l.map (fun n => if n.id = id then f n else n) = l.map fun n => n := List.map_congr_left (fun a ha => by rw [if_neg (hl a ha)])
    rw [h1, List.map_id']
  unfold setNd
  rw [List.map_append, List.map_cons, if_pos hx, key A (fun y hy => h y (List.mem_append_left _ hy)), key B (fun y hy => h y (List.mem_append_right _ hy))]
theorem del_split {A B : List Nd} {x : Nd} {id : Int} (hx : x.id = id) (h : ∀ y ∈ A ++ B, y.id ≠ id) : (A ++ x :: B).filter (fun x => decide (x.id ≠ id)) = A ++ B := by
  have key : ∀ l : List Nd, (∀ y ∈ l, y.id ≠ id) → l.filter (fun x => decide (x.id ≠ id)) = l := fun l hl => List.filter_eq_self.2 (fun a ha => by simpa using hl a ha)
  rw [List.filter_append, List.filter_cons, if_neg (by simp [hx]), key A (fun y hy => h y (List.mem_append_left _ hy)), key B (fun y hy => h y (List.mem_append_right _ hy))]
theorem Sane.step {n : Nat} {t : TreeV} (h : Sane n t) (o : OrdV) : Sane (n + 1) (t.apply o).1 := by
  rcases apply_cases t o with ⟨e, _⟩ | ⟨a0, a1, hc⟩
  · rw [e]; exact h.more (by omega)
  have u := h.tick (a := o.at_) a1
  obtain ⟨t2, ht2⟩ : ∃ t2, t2 = t.tick o.at_ := ⟨_, rfl⟩
  rw [← ht2] at u hc
  have um := u.more (m := n + 1) (by omega)
  rcases hc with ⟨_, e⟩ | ⟨_, e⟩ | ⟨_, e⟩ | ⟨_, e⟩ <;> rw [e]
  · rcases create_cases t2 o with ⟨c, _, e2⟩ | ⟨s, _, hs, _, _, _, _, _, e2⟩ <;> rw [e2]
    · exact um
    · obtain ⟨b0, b1⟩ := u.below hs
      show Sane (n + 1) (TreeV.drained _ o.id)
      refine Sane.drained ?_ _
      refine ⟨by have := u.l0; show 0 ≤ t2.last + 1; omega, by have := u.l1; show t2.last + 1 ≤ _; omega, u.n0, u.n1, ?_, ?_, by show (t2.nodes ++ [_]).length ≤ _; rw [List.length_append]; have := u.nl; simpa using this, um.gl⟩
      · show (t2.nodes ++ [_]).Pairwise _
        rw [List.pairwise_append]
        refine ⟨u.st, List.pairwise_singleton _ _, fun a ha b hb => ?_⟩
        rw [List.mem_singleton.1 hb]
        have := u.lw a ha
        show a.id < t2.last + 1
        omega
      · intro x hx
        rcases List.mem_append.1 (show x ∈ t2.nodes ++ [_] from hx) with hx | hx
        · have := u.lw x hx
          exact ⟨this.1, this.2.1, by show x.id ≤ t2.last + 1; omega⟩
        · rw [List.mem_singleton.1 hx]
          exact ⟨b0, by show o.id < t2.last + 1; omega, Int.le_refl _⟩
  · rcases resize_cases t2 o with ⟨c, _, e2⟩ | ⟨x, _, hf, _, _, _, _, e2⟩ <;> rw [e2]
    · exact um
    · show Sane (n + 1) (TreeV.drained _ x.par)
      refine Sane.drained ?_ _
      refine ⟨u.l0, um.l1, u.n0, u.n1, setNd_pw (fun _ => rfl) u.st, fun y hy => ?_, by show (setNd _ _ _).length ≤ _; unfold setNd; rw [List.length_map]; exact um.nl, by show (t2.ghosts ++ [_]).length ≤ _; rw [List.length_append]; have := u.gl; simpa using this⟩
      obtain ⟨z, hz, ⟨_, e⟩ | ⟨_, e⟩⟩ := setNd_mem hy <;> (rw [e]; exact u.lw z hz)
  · rcases remove_cases t2 o with ⟨c, _, e2⟩ | ⟨x, t1, hf, _, e3, e2⟩ <;> rw [e2]
    · exact um
    · rw [e3]
      exact ⟨u.l0, um.l1, u.n0, u.n1, u.st.filter _, fun y hy => u.lw y ((List.mem_filter.1 hy).1), Nat.le_trans (List.length_filter_le ..) um.nl, by show (t2.ghosts ++ [_]).length ≤ _; rw [List.length_append]; have := u.gl; simpa using this⟩
  · rcases bind_cases t2 o with ⟨c, _, e2⟩ | ⟨x, _, hf, _, _, _, e2⟩ <;> rw [e2]
    · exact um
    · refine ⟨u.l0, um.l1, u.n0, u.n1, setNd_pw (fun _ => rfl) u.st, fun y hy => ?_, by show (setNd _ _ _).length ≤ _; unfold setNd; rw [List.length_map]; exact um.nl, um.gl⟩
      obtain ⟨z, hz, ⟨_, e⟩ | ⟨_, e⟩⟩ := setNd_mem hy <;> (rw [e]; exact u.lw z hz)
/-- A refused order: nothing but the time. -/
theorem apply_no (t : TreeV) (o : OrdV) (h : (t.apply o).2.1 ≠ 0) : (t.apply o).2.2 = 0 ∧ ((t.apply o).1 = t ∧ (t.apply o).2.1 = 7 ∨ (t.apply o).1 = t.tick o.at_) := by
  rcases apply_cases t o with ⟨e, _⟩ | ⟨a0, a1, hc⟩
  · rw [e]; exact ⟨rfl, .inl ⟨rfl, rfl⟩⟩
  rcases hc with ⟨_, e⟩ | ⟨_, e⟩ | ⟨_, e⟩ | ⟨_, e⟩ <;> rw [e] at h ⊢
  · rcases create_cases (t.tick o.at_) o with ⟨c, _, e2⟩ | ⟨s, _, hs, _, _, _, _, _, e2⟩ <;> rw [e2] at h ⊢
    · exact ⟨rfl, .inr rfl⟩
    · exact absurd rfl h
  · rcases resize_cases (t.tick o.at_) o with ⟨c, _, e2⟩ | ⟨x, _, hf, _, _, _, _, e2⟩ <;> rw [e2] at h ⊢
    · exact ⟨rfl, .inr rfl⟩
    · exact absurd rfl h
  · rcases remove_cases (t.tick o.at_) o with ⟨c, _, e2⟩ | ⟨x, t1, hf, _, e3, e2⟩ <;> rw [e2] at h ⊢
    · exact ⟨rfl, .inr rfl⟩
    · exact absurd rfl h
  · rcases bind_cases (t.tick o.at_) o with ⟨c, _, e2⟩ | ⟨x, _, hf, _, _, _, e2⟩ <;> rw [e2] at h ⊢
    · exact ⟨rfl, .inr rfl⟩
    · exact absurd rfl h
theorem drained_now (t : TreeV) (p : Int) : (t.drained p).now = t.now := by
  obtain ⟨f, _, h2, _⟩ := drained_at t p
  rw [h2]
theorem apply_yes {n : Nat} {t : TreeV} (hS : Sane n t) (o : OrdV) (h : (t.apply o).2.1 = 0) : 0 < (t.apply o).2.2 ∧ (t.apply o).1.now = max t.now o.at_ := by
  rcases apply_cases t o with ⟨e, _⟩ | ⟨a0, a1, hc⟩
  · rw [e] at h; cases h
  have u := hS.tick (a := o.at_) a1
  have hid : ∀ x, (t.tick o.at_).find o.id = some x → 0 < o.id := fun x hx => by
    obtain ⟨hm, he⟩ := find_mem hx
    have := u.lw x hm
    omega
  rcases hc with ⟨_, e⟩ | ⟨_, e⟩ | ⟨_, e⟩ | ⟨_, e⟩ <;> rw [e] at h ⊢
  · rcases create_cases (t.tick o.at_) o with ⟨c, hc, e2⟩ | ⟨s, _, hs, _, _, _, _, _, e2⟩ <;> rw [e2] at h ⊢
    · exact absurd h hc
    · exact ⟨by have := u.l0; show 0 < (t.tick o.at_).last + 1; omega, drained_now _ _⟩
  · rcases resize_cases (t.tick o.at_) o with ⟨c, hc, e2⟩ | ⟨x, _, hf, _, _, _, _, e2⟩ <;> rw [e2] at h ⊢
    · exact absurd h hc
    · exact ⟨hid x hf, drained_now _ _⟩
  · rcases remove_cases (t.tick o.at_) o with ⟨c, hc, e2⟩ | ⟨x, t1, hf, _, e3, e2⟩ <;> rw [e2] at h ⊢
    · exact absurd h hc
    · exact ⟨hid x hf, by rw [e3]; rfl⟩
  · rcases bind_cases (t.tick o.at_) o with ⟨c, hc, e2⟩ | ⟨x, _, hf, _, _, _, e2⟩ <;> rw [e2] at h ⊢
    · exact absurd h hc
    · exact ⟨hid x hf, rfl⟩
/-- What orders make. -/
def madeV (l : List OrdV) : TreeV := l.foldl (fun t o => (t.apply o).1) ⟨[], [], 0, 0⟩
theorem madeV_snoc (l : List OrdV) (o : OrdV) : madeV (l ++ [o]) = ((madeV l).apply o).1 := by unfold madeV; rw [List.foldl_append]; rfl
theorem sane_made (l : List OrdV) : Sane l.length (madeV l) := by
  have key : ∀ (l : List OrdV) (n : Nat) (t : TreeV), Sane n t → Sane (n + l.length) (l.foldl (fun t o => (t.apply o).1) t) := by
    intro l
    induction l with
    | nil => intro n t h; exact h
    | cons o r ih =>
      intro n t h
      have := ih (n + 1) _ (h.step o)
      rw [List.foldl_cons, List.length_cons, show n + (r.length + 1) = n + 1 + r.length by omega]
      exact this
  have := key l 0 _ Sane.zero
  rw [Nat.zero_add] at this
  exact this
end Go.Proofs.YtglfdnfojpdkjaaGreatDoor
/- Ledgers, folded: plain laws. -/
namespace Go.Proofs.YtglfdnfojpdkjaaGreatDoor
open Go.RowKit

/-- An entry's order. -/
def ordOf (e : Ent) : OrdV := ⟨e.kd, e.id, e.srv, e.po, e.tasks, e.at_⟩
/-- The answers of orders. -/
def resG : TreeV → List OrdV → List (Int × Int)
  | _, [] => []
  | t, o :: r => (t.apply o).2 :: resG (t.apply o).1 r
theorem resG_snoc (t : TreeV) (l : List OrdV) (o : OrdV) : resG t (l ++ [o]) = resG t l ++ [((l.foldl (fun t o => (t.apply o).1) t).apply o).2] := by
  induction l generalizing t with
  | nil => rfl
  | cons x r ih => rw [List.cons_append, resG, resG, ih]; rfl
theorem resG_len (t : TreeV) (l : List OrdV) : (resG t l).length = l.length := by
  induction l generalizing t with
  | nil => rfl
  | cons x r ih => rw [resG, List.length_cons, ih, List.length_cons]
theorem resG_take (t : TreeV) (l m : List OrdV) : (resG t (l ++ m)).take l.length = resG t l := by
  induction l generalizing t with
  | nil => rfl
  | cons x r ih => rw [List.cons_append, resG, resG, List.length_cons, List.take_succ_cons, ih]
/-- The place of a question. -/
def plcE : List Ent → Int → Int → Option Nat
  | [], _, _ => none
  | e :: r, c, n => if e.cl = c ∧ e.nu = n then some 0 else (plcE r c n).map (· + 1)
theorem plcE_app {l m : List Ent} {c n : Int} {k : Nat} (h : plcE l c n = some k) : plcE (l ++ m) c n = some k := by
  induction l generalizing k with
  | nil => cases h
  | cons e r ih =>
    rw [List.cons_append]
    unfold plcE at h ⊢
    by_cases hc : e.cl = c ∧ e.nu = n
    · rw [if_pos hc] at h ⊢; exact h
    · rw [if_neg hc] at h ⊢
      cases hr : plcE r c n with
      | none => rw [hr] at h; cases h
      | some j => rw [hr] at h; rw [ih hr]; exact h
theorem plcE_get {l : List Ent} {c n : Int} {k : Nat} (h : plcE l c n = some k) : ∃ e, l[k]? = some e ∧ e.cl = c ∧ e.nu = n ∧ ∀ j < k, ∀ x, l[j]? = some x → ¬ (x.cl = c ∧ x.nu = n) := by
  induction l generalizing k with
  | nil => cases h
  | cons e r ih =>
    unfold plcE at h
    by_cases hc : e.cl = c ∧ e.nu = n
    · rw [if_pos hc] at h
      obtain rfl := Option.some.inj h
      exact ⟨e, rfl, hc.1, hc.2, fun j hj => by omega⟩
    · rw [if_neg hc] at h
      cases hr : plcE r c n with
      | none => rw [hr] at h; cases h
      | some i =>
        rw [hr] at h
        obtain rfl : i + 1 = k := Option.some.inj h
        obtain ⟨x, h1, h2, h3, h4⟩ := ih hr
        refine ⟨x, h1, h2, h3, fun j hj y hy => ?_⟩
        cases j with
        | zero => obtain rfl : e = y := by simpa using hy
                  exact hc
        | succ j => exact h4 j (by omega) y hy
theorem plcE_none {l : List Ent} {c n : Int} (h : plcE l c n = none) : ∀ e ∈ l, ¬ (e.cl = c ∧ e.nu = n) := by
  induction l with
  | nil => intro e he; cases he
  | cons e r ih =>
    unfold plcE at h
    by_cases hc : e.cl = c ∧ e.nu = n
    · rw [if_pos hc] at h; cases h
    · rw [if_neg hc] at h
      intro x hx
      rcases List.mem_cons.1 hx with rfl | hx
      · exact hc
      · exact ih (by cases hr : plcE r c n with | none => rfl | some j => rw [hr] at h; cases h) x hx
def oldE (l : List Ent) (c n : Int) : Bool := l.any fun e => decide (e.cl = c) && decide (n < e.nu)
/-- What a ledger answers: the answer's code and id. -/
def ansE (l : List Ent) (c n : Int) : Option (Int × Int) := match plcE l c n with
  | some k => some (((resG ⟨[], [], 0, 0⟩ (l.map ordOf))[k]?).getD (0, 0))
  | none => if oldE l c n then some (102, 0) else none
theorem loose_code (t : TreeV) (id : Int) : t.loose id = 0 ∨ t.loose id = 1 ∨ t.loose id = 2 := by
  unfold TreeV.loose
  cases t.find id with
  | none => exact .inr (.inl rfl)
  | some x =>
    dsimp only
    split
    · exact .inr (.inr rfl)
    · exact .inl rfl
theorem create_code (t : TreeV) (o : OrdV) : (t.create o).2.1 ≠ 102 := by
  unfold TreeV.create
  split
  · simp
  · split
    · simp
    · repeat' split
      all_goals (try dsimp only)
      repeat' split
      all_goals simp
theorem resize_code (t : TreeV) (o : OrdV) : (t.resize o).2.1 ≠ 102 := by
  have h := loose_code t o.id
  unfold TreeV.resize
  split
  · simp
  · split
    · dsimp only; omega
    · split
      · simp
      · repeat' split
        all_goals (try dsimp only)
        repeat' split
        all_goals simp
theorem remove_code (t : TreeV) (o : OrdV) : (t.remove o).2.1 ≠ 102 := by
  have h := loose_code t o.id
  unfold TreeV.remove
  split
  · dsimp only; omega
  · split
    · simp
    · simp
theorem bind_code (t : TreeV) (o : OrdV) : (t.bind o).2.1 ≠ 102 := by
  have h := loose_code t o.id
  unfold TreeV.bind
  split
  · simp
  · split
    · dsimp only; omega
    · split
      · simp
      · repeat' split
        all_goals (try dsimp only)
        repeat' split
        all_goals simp
theorem apply_code (t : TreeV) (o : OrdV) : (t.apply o).2.1 ≠ 102 := by
  rcases apply_cases t o with ⟨e, _⟩ | ⟨_, _, hc⟩
  · rw [e]; simp
  · rcases hc with ⟨_, e⟩ | ⟨_, e⟩ | ⟨_, e⟩ | ⟨_, e⟩ <;> rw [e]
    · exact create_code _ _
    · exact resize_code _ _
    · exact remove_code _ _
    · exact bind_code _ _
theorem resG_code (t : TreeV) (l : List OrdV) : ∀ r ∈ resG t l, r.1 ≠ 102 := by
  induction l generalizing t with
  | nil => intro r h; cases h
  | cons x l ih =>
    intro r hr
    rw [resG] at hr
    rcases List.mem_cons.1 hr with rfl | hr
    · exact apply_code t x
    · exact ih _ r hr
/-- What is answered once is answered so for ever. -/
theorem ans_stays (l m : List Ent) (c n : Int) {r : Int × Int} (h : ansE l c n = some r) : (ansE (l ++ m) c n = some r) ∨ (r = (102, 0) ∧ plcE l c n = none ∧ ∃ s, ansE (l ++ m) c n = some s ∧ s.1 ≠ 102) := by
  unfold ansE at h ⊢
  cases hp : plcE l c n with
  | some k =>
    rw [hp] at h
    rw [plcE_app hp]
    refine .inl ?_
    rw [← h]
    obtain ⟨e, he, _⟩ := plcE_get hp
    have hk : k < l.length := get_lt he
    dsimp only
    congr 2
    have h1 := resG_take ⟨[], [], 0, 0⟩ (l.map ordOf) (m.map ordOf)
    rw [List.map_append, ← h1, List.length_map, List.getElem?_take_of_lt hk]
  | none =>
    rw [hp] at h
    dsimp only at h
    cases ho : oldE l c n with
    | false => rw [ho] at h; cases h
    | true =>
      rw [ho, if_pos rfl] at h
      obtain rfl := Option.some.inj h
      have ho2 : oldE (l ++ m) c n = true := by
        unfold oldE at ho ⊢
        rw [List.any_append, ho, Bool.true_or]
      cases hp2 : plcE (l ++ m) c n with
      | none => rw [ho2]; exact .inl rfl
      | some k =>
        refine .inr ⟨rfl, rfl, _, rfl, ?_⟩
        obtain ⟨e, he, _⟩ := plcE_get hp2
        have hk : k < (resG ⟨[], [], 0, 0⟩ ((l ++ m).map ordOf)).length := by rw [resG_len, List.length_map]; exact get_lt he
        obtain ⟨y, hy⟩ : ∃ y, (resG ⟨[], [], 0, 0⟩ ((l ++ m).map ordOf))[k]? = some y := ⟨_, List.getElem?_eq_getElem hk⟩
        rw [hy]
        exact resG_code _ _ y (List.mem_of_getElem? hy)
end Go.Proofs.YtglfdnfojpdkjaaGreatDoor
