/- The trees that orders make: plain laws. -/
import Derived.Test.YtanfgipanfjcoaaGreatDoorJ23
namespace Go.Proofs.YtanfgipanfjcoaaGreatDoor
open Go.RowKit

theorem sumI_perm {α : Type} (f : α → Int) {l m : List α} (h : l.Perm m) : sumI f l = sumI f m := by
  induction h with
  | nil => rfl
  | cons x _ ih => rw [sumI_cons, sumI_cons, ih]
  | swap x y l => rw [sumI_cons, sumI_cons, sumI_cons, sumI_cons]; omega
  | trans _ _ ih1 ih2 => rw [ih1, ih2]
theorem demI_perm {l m : List Srv} (h : l.Perm m) : demI l = demI m := by
  funext i
  exact sumI_perm _ h
theorem stepsL_perm {l m : List Srv} (h : l.Perm m) (n : Nat) : stepsL l n = stepsL m n := by
  induction n with
  | zero => rfl
  | succ n ih =>
    unfold stepsL
    rw [ih, demI_perm h]
theorem all_perm {α : Type} {p : α → Bool} {l m : List α} (h : l.Perm m) : l.all p = m.all p := by
  induction h with
  | nil => rfl
  | cons x _ ih => rw [List.all_cons, List.all_cons, ih]
  | swap x y l => rw [List.all_cons, List.all_cons, List.all_cons, List.all_cons, ← Bool.and_assoc, ← Bool.and_assoc, Bool.and_comm (p y)]
  | trans _ _ ih1 ih2 => rw [ih1, ih2]
theorem srvErr_perm {l m : List Srv} (h : l.Perm m) : srvErr l = srvErr m := by
  unfold srvErr allLeg
  rw [all_perm h, h.length_eq]
/-- In any order they fit alike. -/
theorem kids_perm {s : Srv} {l m : List Srv} (h : l.Perm m) : kidsErr s l = kidsErr s m := by
  have h1 : sumQ l = sumQ m := sumI_perm _ h
  unfold kidsErr kidsB
  rw [srvErr_perm h, shareS_perm h, h1, stepsL_perm h, demI_perm h]
/-- Fewer of them fit too. -/
theorem kids_sub {s : Srv} {l m : List Srv} (h : m.Sublist l) (hk : kidsErr s l = none) : kidsErr s m = none := by
  have key : ∀ (l m : List Srv), m.Sublist l → ∀ a : List Srv, kidsErr s (a ++ l) = none → kidsErr s (a ++ m) = none := by
    intro l m h
    induction h with
    | slnil => intro a hk; exact hk
    | cons x _ ih => intro a hk; exact ih a (kids_fewer hk)
    | cons_cons x _ ih =>
      intro a hk
      have h1 := ih (a ++ [x]) (by simpa using hk)
      simpa using h1
  exact key l m h [] hk
/-- What holds of every tree that orders make. -/
structure Sane (n : Nat) (t : TreeV) : Prop where
  l0 : 0 ≤ t.last
  l1 : t.last ≤ n
  n0 : 0 ≤ t.now
  n1 : t.now ≤ 1099511627776
  st : t.nodes.Pairwise fun x y => x.id < y.id
  lw : ∀ x ∈ t.nodes, 0 ≤ x.par ∧ x.par < x.id ∧ x.id ≤ t.last
  nl : t.nodes.length ≤ n
  gl : t.ghosts.length ≤ n
theorem Sane.zero : Sane 0 ⟨[], [], 0, 0⟩ := ⟨by simp, by simp, by simp, by simp, .nil, by simp, by simp, by simp⟩
theorem Sane.more {n m : Nat} {t : TreeV} (h : Sane n t) (hm : n ≤ m) : Sane m t := ⟨h.l0, by have := h.l1; omega, h.n0, h.n1, h.st, h.lw, by have := h.nl; omega, by have := h.gl; omega⟩
theorem drained_at (t : TreeV) (p : Int) : ∃ f : Gh → Gh, (∀ g, (f g).par = g.par ∧ (f g).srv = g.srv ∧ g.till ≤ (f g).till) ∧ t.drained p = {t with ghosts := t.ghosts.map f} ∧ (kidsErr ((t.server p).getD rootS) (t.counted p) = none → ∀ g, g.par = p → t.now + drainI ((t.server p).getD rootS) (t.counted p) ≤ (f g).till) := by
  unfold TreeV.drained
  dsimp only
  by_cases hk : kidsErr ((t.server p).getD rootS) (t.counted p) = none
  · rw [if_pos hk]
    refine ⟨fun g => if g.par = p then {g with till := max g.till (t.now + drainI ((t.server p).getD rootS) (t.counted p))} else g, fun g => ?_, rfl, fun _ g hg => ?_⟩
    · dsimp only
      split
      · exact ⟨rfl, rfl, by dsimp only; omega⟩
      · exact ⟨rfl, rfl, Int.le_refl _⟩
    · dsimp only
      rw [if_pos hg]
      dsimp only
      omega
  · rw [if_neg hk]
    exact ⟨id, fun g => ⟨rfl, rfl, Int.le_refl _⟩, by simp, fun h => absurd h hk⟩
theorem create_cases (t : TreeV) (o : OrdV) : (∃ c, c ≠ 0 ∧ t.create o = (t, c, 0)) ∨ ∃ s, o.srv.leg = true ∧ t.server o.id = some s ∧ ((t.find o.id).map (·.pol)).getD 0 = 0 ∧ t.depth o.id < 4 ∧ t.nodes.length < 64 ∧ (t.counted o.id).length < 8 ∧ kidsErr s (t.counted o.id ++ [o.srv]) = none ∧ t.create o = (({t with last := t.last + 1, nodes := t.nodes ++ [(⟨t.last + 1, o.id, o.srv, 0, []⟩ : Nd)]} : TreeV).drained o.id, 0, t.last + 1) := by
  unfold TreeV.create
  cases h1 : o.srv.leg with
  | false => rw [if_pos rfl]; exact .inl ⟨7, by decide, rfl⟩
  | true =>
    rw [if_neg (by decide)]
    cases h2 : t.server o.id with
    | none => exact .inl ⟨1, by decide, rfl⟩
    | some s =>
      dsimp only
      by_cases h3 : ((t.find o.id).map (·.pol)).getD 0 ≠ 0
      · rw [if_pos h3]; exact .inl ⟨3, by decide, rfl⟩
      rw [if_neg h3]
      by_cases h4 : 4 ≤ t.depth o.id
      · rw [if_pos h4]; exact .inl ⟨6, by decide, rfl⟩
      rw [if_neg h4]
      by_cases h5 : 64 ≤ t.nodes.length ∨ 8 ≤ (t.counted o.id).length
      · rw [if_pos h5]; exact .inl ⟨5, by decide, rfl⟩
      rw [if_neg h5]
      by_cases h6 : kidsErr s (t.counted o.id ++ [o.srv]) ≠ none
      · rw [if_pos h6]; exact .inl ⟨4, by decide, rfl⟩
      rw [if_neg h6]
      exact .inr ⟨s, rfl, rfl, by simpa using h3, by omega, by omega, by omega, by simpa using h6, rfl⟩
theorem loose_cases (t : TreeV) (id : Int) : t.loose id ≠ 0 ∨ t.loose id = 0 ∧ ∃ x, t.find id = some x ∧ t.counted id = [] := by
  unfold TreeV.loose
  cases h1 : t.find id with
  | none => exact .inl (by simp)
  | some x =>
    dsimp only
    by_cases h2 : t.counted id ≠ []
    · rw [if_pos h2]; exact .inl (by decide)
    · rw [if_neg h2]; exact .inr ⟨rfl, x, rfl, by simpa using h2⟩
theorem resize_cases (t : TreeV) (o : OrdV) : (∃ c, c ≠ 0 ∧ t.resize o = (t, c, 0)) ∨ ∃ x, o.srv.leg = true ∧ t.find o.id = some x ∧ t.counted o.id = [] ∧ x.pol = 0 ∧ (t.counted x.par).length < 8 ∧ kidsErr ((t.server x.par).getD rootS) (t.counted x.par ++ [o.srv]) = none ∧ t.resize o = (({t with nodes := setNd t.nodes o.id fun n => {n with srv := o.srv}, ghosts := t.ghosts ++ [(⟨x.par, x.srv, 0⟩ : Gh)]} : TreeV).drained x.par, 0, o.id) := by
  unfold TreeV.resize
  cases h1 : o.srv.leg with
  | false => rw [if_pos rfl]; exact .inl ⟨7, by decide, rfl⟩
  | true =>
    rw [if_neg (by decide)]
    rcases loose_cases t o.id with h2 | ⟨h2, x, h3, h4⟩
    · rw [if_pos h2]; exact .inl ⟨_, h2, rfl⟩
    rw [if_neg (by rw [h2]; decide), h3]
    dsimp only
    by_cases h5 : x.pol ≠ 0
    · rw [if_pos h5]; exact .inl ⟨3, by decide, rfl⟩
    rw [if_neg h5]
    by_cases h6 : 8 ≤ (t.counted x.par).length
    · rw [if_pos h6]; exact .inl ⟨5, by decide, rfl⟩
    rw [if_neg h6]
    by_cases h7 : kidsErr ((t.server x.par).getD rootS) (t.counted x.par ++ [o.srv]) ≠ none
    · rw [if_pos h7]; exact .inl ⟨4, by decide, rfl⟩
    rw [if_neg h7]
    exact .inr ⟨x, rfl, rfl, h4, by simpa using h5, by omega, by simpa using h7, rfl⟩
theorem remove_cases (t : TreeV) (o : OrdV) : (∃ c, c ≠ 0 ∧ t.remove o = (t, c, 0)) ∨ ∃ x, ∃ t1 : TreeV, t.find o.id = some x ∧ t.counted o.id = [] ∧ t1 = {t with nodes := t.nodes.filter fun x => decide (x.id ≠ o.id), ghosts := t.ghosts ++ [(⟨x.par, x.srv, 0⟩ : Gh)]} ∧ t.remove o = ({t1 with ghosts := t.ghosts ++ [(⟨x.par, x.srv, if kidsErr ((t1.server x.par).getD rootS) (t1.counted x.par) = none then t.now + drainI ((t1.server x.par).getD rootS) (t1.counted x.par) else 0⟩ : Gh)]}, 0, o.id) := by
  unfold TreeV.remove
  rcases loose_cases t o.id with h2 | ⟨h2, x, h3, h4⟩
  · rw [if_pos h2]; exact .inl ⟨_, h2, rfl⟩
  rw [if_neg (by rw [h2]; decide), h3]
  exact .inr ⟨x, _, rfl, h4, rfl, rfl⟩
theorem bind_cases (t : TreeV) (o : OrdV) : (∃ c, c ≠ 0 ∧ t.bind o = (t, c, 0)) ∨ ∃ x, guestOk o.pol o.tasks = true ∧ t.find o.id = some x ∧ t.counted o.id = [] ∧ x.pol = 0 ∧ guestErr x.srv o.pol o.tasks = none ∧ t.bind o = ({t with nodes := setNd t.nodes o.id fun n => {n with pol := o.pol, tasks := o.tasks}}, 0, o.id) := by
  unfold TreeV.bind
  cases h1 : guestOk o.pol o.tasks with
  | false => rw [if_pos rfl]; exact .inl ⟨8, by decide, rfl⟩
  | true =>
    rw [if_neg (by decide)]
    rcases loose_cases t o.id with h2 | ⟨h2, x, h3, h4⟩
    · rw [if_pos h2]; exact .inl ⟨_, h2, rfl⟩
    rw [if_neg (by rw [h2]; decide), h3]
    dsimp only
    by_cases h5 : x.pol ≠ 0
    · rw [if_pos h5]; exact .inl ⟨3, by decide, rfl⟩
    rw [if_neg h5]
    by_cases h6 : guestErr x.srv o.pol o.tasks ≠ none
    · rw [if_pos h6]; exact .inl ⟨4, by decide, rfl⟩
    rw [if_neg h6]
    exact .inr ⟨x, rfl, rfl, h4, by simpa using h5, by simpa using h6, rfl⟩
/-- What an order that is refused makes. -/
theorem apply_cases (t : TreeV) (o : OrdV) : (t.apply o = (t, 7, 0) ∧ (o.kd < 1 ∨ 4 < o.kd ∨ o.at_ < 0 ∨ 1099511627776 < o.at_)) ∨ 0 ≤ o.at_ ∧ o.at_ ≤ 1099511627776 ∧ (o.kd = 1 ∧ t.apply o = (t.tick o.at_).create o ∨ o.kd = 2 ∧ t.apply o = (t.tick o.at_).resize o ∨ o.kd = 3 ∧ t.apply o = (t.tick o.at_).remove o ∨ o.kd = 4 ∧ t.apply o = (t.tick o.at_).bind o) := by
  unfold TreeV.apply
  by_cases h : o.kd < 1 ∨ 4 < o.kd ∨ o.at_ < 0 ∨ 1099511627776 < o.at_
  · rw [if_pos h]; exact .inl ⟨rfl, h⟩
  · rw [if_neg h]
    refine .inr ⟨by omega, by omega, ?_⟩
    dsimp only
    by_cases h1 : o.kd = 1
    · rw [if_pos h1]; exact .inl ⟨h1, rfl⟩
    rw [if_neg h1]
    by_cases h2 : o.kd = 2
    · rw [if_pos h2]; exact .inr (.inl ⟨h2, rfl⟩)
    rw [if_neg h2]
    by_cases h3 : o.kd = 3
    · rw [if_pos h3]; exact .inr (.inr (.inl ⟨h3, rfl⟩))
    rw [if_neg h3]
    exact .inr (.inr (.inr ⟨by omega, rfl⟩))
theorem Sane.tick {n : Nat} {t : TreeV} (h : Sane n t) {a : Int} (ha : a ≤ 1099511627776) : Sane n (t.tick a) := ⟨h.l0, h.l1, by have := h.n0; show 0 ≤ max t.now a; omega, by have := h.n1; show max t.now a ≤ _; omega, h.st, h.lw, h.nl, Nat.le_trans (List.length_filter_le ..) h.gl⟩
theorem find_mem {t : TreeV} {id : Int} {x : Nd} (h : t.find id = some x) : x ∈ t.nodes ∧ x.id = id := ⟨List.mem_of_find?_eq_some h, by have := List.find?_some h; simpa using this⟩
theorem Sane.drained {n : Nat} {t : TreeV} (h : Sane n t) (p : Int) : Sane n (t.drained p) := by
  obtain ⟨f, _, h2, _⟩ := drained_at t p
  rw [h2]
  exact ⟨h.l0, h.l1, h.n0, h.n1, h.st, h.lw, h.nl, by show (t.ghosts.map f).length ≤ n; rw [List.length_map]; exact h.gl⟩
theorem setNd_pw {l : List Nd} {id : Int} {f : Nd → Nd} (hf : ∀ x, (f x).id = x.id) (h : l.Pairwise fun x y => x.id < y.id) : (setNd l id f).Pairwise fun x y => x.id < y.id := by
  unfold setNd
  rw [List.pairwise_map]
  refine h.imp ?_
  intro a b hab
  have key : ∀ z : Nd, (if z.id = id then f z else z).id = z.id := fun z => by split; exact hf z; rfl
  rw [key, key]
  exact hab
theorem setNd_mem {l : List Nd} {id : Int} {f : Nd → Nd} {y : Nd} (h : y ∈ setNd l id f) : ∃ x ∈ l, (x.id ≠ id ∧ y = x) ∨ (x.id = id ∧ y = f x) := by
  unfold setNd at h
  obtain ⟨x, hx, rfl⟩ := List.mem_map.1 h
  by_cases h1 : x.id = id
  · exact ⟨x, hx, .inr ⟨h1, by rw [if_pos h1]⟩⟩
  · exact ⟨x, hx, .inl ⟨h1, by rw [if_neg h1]⟩⟩
theorem server_at {t : TreeV} {id : Int} {s : Srv} (h : t.server id = some s) : id = 0 ∧ s = rootS ∨ id ≠ 0 ∧ ∃ x, t.find id = some x ∧ s = x.srv := by
  unfold TreeV.server at h
  by_cases h0 : id = 0
  · rw [if_pos h0] at h; exact .inl ⟨h0, (Option.some.inj h).symm⟩
  · rw [if_neg h0] at h
    cases hf : t.find id with
    | none => rw [hf] at h; cases h
    | some x => rw [hf] at h; exact .inr ⟨h0, x, rfl, (Option.some.inj h).symm⟩
theorem Sane.below {n : Nat} {t : TreeV} (h : Sane n t) {id : Int} {s : Srv} (hs : t.server id = some s) : 0 ≤ id ∧ id ≤ t.last := by
  rcases server_at hs with ⟨rfl, _⟩ | ⟨_, x, hf, _⟩
  · exact ⟨by omega, h.l0⟩
  · obtain ⟨hm, rfl⟩ := find_mem hf
    have := h.lw x hm
    omega
/-- A node among the others. -/
theorem find_split {n : Nat} {t : TreeV} (h : Sane n t) {id : Int} {x : Nd} (hf : t.find id = some x) : ∃ A B, t.nodes = A ++ x :: B ∧ x.id = id ∧ ∀ y ∈ A ++ B, y.id ≠ id := by
  obtain ⟨hm, rfl⟩ := find_mem hf
  obtain ⟨A, B, e⟩ := List.append_of_mem hm
  refine ⟨A, B, e, rfl, fun y hy => ?_⟩
  have h1 := h.st
  rw [e, List.pairwise_append, List.pairwise_cons] at h1
  rcases List.mem_append.1 hy with hy | hy
  · have := h1.2.2 y hy x (by simp); omega
  · have := h1.2.1.1 y hy; omega
theorem set_split {A B : List Nd} {x : Nd} {id : Int} {f : Nd → Nd} (hx : x.id = id) (h : ∀ y ∈ A ++ B, y.id ≠ id) : setNd (A ++ x :: B) id f = A ++ f x :: B := by
  have key : ∀ l : List Nd, (∀ y ∈ l, y.id ≠ id) → l.map (fun n => if n.id = id then f n else n) = l := by
    intro l hl
    have h1 : l.map (fun n => if n.id = id then f n else n) = l.map fun n => n := List.map_congr_left (fun a ha => by rw [if_neg (hl a ha)])
    rw [h1, List.map_id']
  unfold setNd
  rw [List.map_append, List.map_cons, if_pos hx, key A (fun y hy => h y (List.mem_append_left _ hy)), key B (fun y hy => h y (List.mem_append_right _ hy))]
theorem del_split {A B : List Nd} {x : Nd} {id : Int} (hx : x.id = id) (h : ∀ y ∈ A ++ B, y.id ≠ id) : (A ++ x :: B).filter (fun x => decide (x.id ≠ id)) = A ++ B := by
  have key : ∀ l : List Nd, (∀ y ∈ l, y.id ≠ id) → l.filter (fun x => decide (x.id ≠ id)) = l := fun l hl => List.filter_eq_self.2 (fun a ha => by simpa using hl a ha)
  rw [List.filter_append, List.filter_cons, if_neg (by simp [hx]), key A (fun y hy => h y (List.mem_append_left _ hy)), key B (fun y hy => h y (List.mem_append_right _ hy))]
theorem Sane.step {n : Nat} {t : TreeV} (h : Sane n t) (o : OrdV) : Sane (n + 1) (t.apply o).1 := by
  rcases apply_cases t o with ⟨e, _⟩ | ⟨a0, a1, hc⟩
  · rw [e]; exact h.more (by omega)
  have u := h.tick (a := o.at_) a1
  obtain ⟨t2, ht2⟩ : ∃ t2, t2 = t.tick o.at_ := ⟨_, rfl⟩
  rw [← ht2] at u hc
  have um := u.more (m := n + 1) (by omega)
  rcases hc with ⟨_, e⟩ | ⟨_, e⟩ | ⟨_, e⟩ | ⟨_, e⟩ <;> rw [e]
  · rcases create_cases t2 o with ⟨c, _, e2⟩ | ⟨s, _, hs, _, _, _, _, _, e2⟩ <;> rw [e2]
    · exact um
    · obtain ⟨b0, b1⟩ := u.below hs
      show Sane (n + 1) (TreeV.drained _ o.id)
      refine Sane.drained ?_ _
      refine ⟨by have := u.l0; show 0 ≤ t2.last + 1; omega, by have := u.l1; show t2.last + 1 ≤ _; omega, u.n0, u.n1, ?_, ?_, by show (t2.nodes ++ [_]).length ≤ _; rw [List.length_append]; have := u.nl; simpa using this, um.gl⟩
      · show (t2.nodes ++ [_]).Pairwise _
        rw [List.pairwise_append]
        refine ⟨u.st, List.pairwise_singleton _ _, fun a ha b hb => ?_⟩
        rw [List.mem_singleton.1 hb]
        have := u.lw a ha
        show a.id < t2.last + 1
        omega
      · intro x hx
        rcases List.mem_append.1 (show x ∈ t2.nodes ++ [_] from hx) with hx | hx
        · have := u.lw x hx
          exact ⟨this.1, this.2.1, by show x.id ≤ t2.last + 1; omega⟩
        · rw [List.mem_singleton.1 hx]
          exact ⟨b0, by show o.id < t2.last + 1; omega, Int.le_refl _⟩
  · rcases resize_cases t2 o with ⟨c, _, e2⟩ | ⟨x, _, hf, _, _, _, _, e2⟩ <;> rw [e2]
    · exact um
    · show Sane (n + 1) (TreeV.drained _ x.par)
      refine Sane.drained ?_ _
      refine ⟨u.l0, um.l1, u.n0, u.n1, setNd_pw (fun _ => rfl) u.st, fun y hy => ?_, by show (setNd _ _ _).length ≤ _; unfold setNd; rw [List.length_map]; exact um.nl, by show (t2.ghosts ++ [_]).length ≤ _; rw [List.length_append]; have := u.gl; simpa using this⟩
      obtain ⟨z, hz, ⟨_, e⟩ | ⟨_, e⟩⟩ := setNd_mem hy <;> (rw [e]; exact u.lw z hz)
  · rcases remove_cases t2 o with ⟨c, _, e2⟩ | ⟨x, t1, hf, _, e3, e2⟩ <;> rw [e2]
    · exact um
    · rw [e3]
      exact ⟨u.l0, um.l1, u.n0, u.n1, u.st.filter _, fun y hy => u.lw y ((List.mem_filter.1 hy).1), Nat.le_trans (List.length_filter_le ..) um.nl, by show (t2.ghosts ++ [_]).length ≤ _; rw [List.length_append]; have := u.gl; simpa using this⟩
  · rcases bind_cases t2 o with ⟨c, _, e2⟩ | ⟨x, _, hf, _, _, _, e2⟩ <;> rw [e2]
    · exact um
    · refine ⟨u.l0, um.l1, u.n0, u.n1, setNd_pw (fun _ => rfl) u.st, fun y hy => ?_, by show (setNd _ _ _).length ≤ _; unfold setNd; rw [List.length_map]; exact um.nl, um.gl⟩
      obtain ⟨z, hz, ⟨_, e⟩ | ⟨_, e⟩⟩ := setNd_mem hy <;> (rw [e]; exact u.lw z hz)
/-- A refused order: nothing but the time. -/
theorem apply_no (t : TreeV) (o : OrdV) (h : (t.apply o).2.1 ≠ 0) : (t.apply o).2.2 = 0 ∧ ((t.apply o).1 = t ∧ (t.apply o).2.1 = 7 ∨ (t.apply o).1 = t.tick o.at_) := by
  rcases apply_cases t o with ⟨e, _⟩ | ⟨a0, a1, hc⟩
  · rw [e]; exact ⟨rfl, .inl ⟨rfl, rfl⟩⟩
  rcases hc with ⟨_, e⟩ | ⟨_, e⟩ | ⟨_, e⟩ | ⟨_, e⟩ <;> rw [e] at h ⊢
  · rcases create_cases (t.tick o.at_) o with ⟨c, _, e2⟩ | ⟨s, _, hs, _, _, _, _, _, e2⟩ <;> rw [e2] at h ⊢
    · exact ⟨rfl, .inr rfl⟩
    · exact absurd rfl h
  · rcases resize_cases (t.tick o.at_) o with ⟨c, _, e2⟩ | ⟨x, _, hf, _, _, _, _, e2⟩ <;> rw [e2] at h ⊢
    · exact ⟨rfl, .inr rfl⟩
    · exact absurd rfl h
  · rcases remove_cases (t.tick o.at_) o with ⟨c, _, e2⟩ | ⟨x, t1, hf, _, e3, e2⟩ <;> rw [e2] at h ⊢
    · exact ⟨rfl, .inr rfl⟩
    · exact absurd rfl h
  · rcases bind_cases (t.tick o.at_) o with ⟨c, _, e2⟩ | ⟨x, _, hf, _, _, _, e2⟩ <;> rw [e2] at h ⊢
    · exact ⟨rfl, .inr rfl⟩
    · exact absurd rfl h
theorem drained_now (t : TreeV) (p : Int) : (t.drained p).now = t.now := by
  obtain ⟨f, _, h2, _⟩ := drained_at t p
  rw [h2]
theorem apply_yes {n : Nat} {t : TreeV} (hS : Sane n t) (o : OrdV) (h : (t.apply o).2.1 = 0) : 0 < (t.apply o).2.2 ∧ (t.apply o).1.now = max t.now o.at_ := by
  rcases apply_cases t o with ⟨e, _⟩ | ⟨a0, a1, hc⟩
  · rw [e] at h; cases h
  have u := hS.tick (a := o.at_) a1
  have hid : ∀ x, (t.tick o.at_).find o.id = some x → 0 < o.id := fun x hx => by
    obtain ⟨hm, he⟩ := find_mem hx
    have := u.lw x hm
    omega
  rcases hc with ⟨_, e⟩ | ⟨_, e⟩ | ⟨_, e⟩ | ⟨_, e⟩ <;> rw [e] at h ⊢
  · rcases create_cases (t.tick o.at_) o with ⟨c, hc, e2⟩ | ⟨s, _, hs, _, _, _, _, _, e2⟩ <;> rw [e2] at h ⊢
    · exact absurd h hc
    · exact ⟨by have := u.l0; show 0 < (t.tick o.at_).last + 1; omega, drained_now _ _⟩
  · rcases resize_cases (t.tick o.at_) o with ⟨c, hc, e2⟩ | ⟨x, _, hf, _, _, _, _, e2⟩ <;> rw [e2] at h ⊢
    · exact absurd h hc
    · exact ⟨hid x hf, drained_now _ _⟩
  · rcases remove_cases (t.tick o.at_) o with ⟨c, hc, e2⟩ | ⟨x, t1, hf, _, e3, e2⟩ <;> rw [e2] at h ⊢
    · exact absurd h hc
    · exact ⟨hid x hf, by rw [e3]; rfl⟩
  · rcases bind_cases (t.tick o.at_) o with ⟨c, hc, e2⟩ | ⟨x, _, hf, _, _, _, e2⟩ <;> rw [e2] at h ⊢
    · exact absurd h hc
    · exact ⟨hid x hf, rfl⟩
/-- What orders make. -/
def madeV (l : List OrdV) : TreeV := l.foldl (fun t o => (t.apply o).1) ⟨[], [], 0, 0⟩
theorem madeV_snoc (l : List OrdV) (o : OrdV) : madeV (l ++ [o]) = ((madeV l).apply o).1 := by unfold madeV; rw [List.foldl_append]; rfl
theorem sane_made (l : List OrdV) : Sane l.length (madeV l) := by
  have key : ∀ (l : List OrdV) (n : Nat) (t : TreeV), Sane n t → Sane (n + l.length) (l.foldl (fun t o => (t.apply o).1) t) := by
    intro l
    induction l with
    | nil => intro n t h; exact h
    | cons o r ih =>
      intro n t h
      have := ih (n + 1) _ (h.step o)
      rw [List.foldl_cons, List.length_cons, show n + (r.length + 1) = n + 1 + r.length by omega]
      exact this
  have := key l 0 _ Sane.zero
  rw [Nat.zero_add] at this
  exact this
end Go.Proofs.YtanfgipanfjcoaaGreatDoor
/- The trees that orders make: what is counted fits. -/
namespace Go.Proofs.YtanfgipanfjcoaaGreatDoor
open Go.RowKit

theorem leg_nil {s : Srv} (h : s.leg = true) : kidsErr s [] = none := kids_nil (by unfold parOk; rw [h, Bool.or_true])
theorem drainI_pos (s : Srv) (l : List Srv) : 1 ≤ drainI s l := by
  unfold drainI
  cases (List.range 4096).find? fun (k : Nat) => decide (reqsI l ((k : Int) + 1) ≤ givI (rowI s) ((k : Int) + 1)) with
  | none => decide
  | some n => simp
/-- What is counted fits. -/
structure Fit (t : TreeV) : Prop where
  ok : ∀ p s, t.server p = some s → kidsErr s (t.counted p) = none
  gp : ∀ g ∈ t.ghosts, g.par ≤ t.last
  up : ∀ x ∈ t.nodes, x.par = 0 ∨ ∃ y ∈ t.nodes, y.id = x.par
  lg : ∀ x ∈ t.nodes, x.srv.leg = true
theorem root_nil : kidsErr rootS [] = none := kids_nil (by decide)
theorem Fit.zero : Fit ⟨[], [], 0, 0⟩ := by
  refine ⟨fun p s h => ?_, by simp, by simp, by simp⟩
  rcases server_at h with ⟨rfl, rfl⟩ | ⟨_, x, hf, _⟩
  · exact root_nil
  · exact absurd (find_mem hf).1 (by simp)
/-- A tree with the same nodes and fewer ghosts. -/
theorem Fit.less {t t' : TreeV} (h : Fit t) (hn : t'.nodes = t.nodes) (hl : t'.last = t.last) (hg : t'.ghosts.Sublist t.ghosts) : Fit t' := by
  have hs : ∀ p, t'.server p = t.server p := fun p => by unfold TreeV.server TreeV.find; rw [hn]
  refine ⟨fun p s hp => ?_, fun g hm => by rw [hl]; exact h.gp g (hg.subset hm), by rw [hn]; exact h.up, by rw [hn]; exact h.lg⟩
  refine kids_sub ?_ (h.ok p s (by rw [← hs]; exact hp))
  unfold TreeV.counted
  rw [hn]
  exact (List.Sublist.refl _).append ((hg.filter _).map _)
theorem counted_map {t : TreeV} {f : Gh → Gh} (hf : ∀ g, (f g).par = g.par ∧ (f g).srv = g.srv ∧ g.till ≤ (f g).till) (p : Int) : ({t with ghosts := t.ghosts.map f} : TreeV).counted p = t.counted p := by
  unfold TreeV.counted
  dsimp only
  congr 1
  rw [List.filter_map, List.map_map]
  have e1 : ((fun g : Gh => decide (g.par = p)) ∘ f) = fun g => decide (g.par = p) := by
    funext g
    show decide ((f g).par = p) = _
    rw [(hf g).1]
  rw [e1]
  exact List.map_congr_left (fun g _ => (hf g).2.1)
theorem drained_counted (t : TreeV) (p q : Int) : (t.drained p).counted q = t.counted q := by
  obtain ⟨f, h1, h2, _⟩ := drained_at t p
  rw [h2]
  exact counted_map h1 q
theorem drained_nodes (t : TreeV) (p : Int) : (t.drained p).nodes = t.nodes := by
  obtain ⟨f, h1, h2, _⟩ := drained_at t p
  rw [h2]
theorem drained_last (t : TreeV) (p : Int) : (t.drained p).last = t.last := by
  obtain ⟨f, h1, h2, _⟩ := drained_at t p
  rw [h2]
theorem drained_server (t : TreeV) (p q : Int) : (t.drained p).server q = t.server q := by
  unfold TreeV.server TreeV.find
  rw [drained_nodes]
theorem Fit.drained {t : TreeV} (h : Fit t) (p : Int) : Fit (t.drained p) := by
  refine ⟨fun q s hq => ?_, fun g hg => ?_, by rw [drained_nodes]; exact h.up, by rw [drained_nodes]; exact h.lg⟩
  · rw [drained_counted]
    exact h.ok q s (by rw [← drained_server t p]; exact hq)
  · rw [drained_last]
    obtain ⟨f, h1, h2, _⟩ := drained_at t p
    rw [h2] at hg
    obtain ⟨z, hz, rfl⟩ := List.mem_map.1 hg
    rw [(h1 z).1]
    exact h.gp z hz
/-- What is counted is nothing where nothing hangs. -/
theorem counted_nil {t : TreeV} {p : Int} (h1 : ∀ x ∈ t.nodes, x.par ≠ p) (h2 : ∀ g ∈ t.ghosts, g.par ≠ p) : t.counted p = [] := by
  unfold TreeV.counted
  rw [List.filter_eq_nil_iff.2 (fun a ha => by simpa using h1 a ha), List.filter_eq_nil_iff.2 (fun a ha => by simpa using h2 a ha)]
  rfl
theorem counted_no {t : TreeV} {p : Int} (h : t.counted p = []) : (∀ x ∈ t.nodes, x.par ≠ p) ∧ ∀ g ∈ t.ghosts, g.par ≠ p := by
  unfold TreeV.counted at h
  rw [List.append_eq_nil_iff, List.map_eq_nil_iff, List.map_eq_nil_iff, List.filter_eq_nil_iff, List.filter_eq_nil_iff] at h
  exact ⟨fun x hx => by simpa using h.1 x hx, fun g hg => by simpa using h.2 g hg⟩
/-- One more. -/
theorem Fit.create {n : Nat} {t : TreeV} (hS : Sane n t) (h : Fit t) {o : OrdV} {s : Srv} (hl : o.srv.leg = true) (hs : t.server o.id = some s) (hk : kidsErr s (t.counted o.id ++ [o.srv]) = none) : Fit {t with last := t.last + 1, nodes := t.nodes ++ [(⟨t.last + 1, o.id, o.srv, 0, []⟩ : Nd)]} := by
  obtain ⟨b0, b1⟩ := hS.below hs
  have hcnt : ∀ p, (({t with last := t.last + 1, nodes := t.nodes ++ [(⟨t.last + 1, o.id, o.srv, 0, []⟩ : Nd)]} : TreeV).counted p).Perm (t.counted p ++ if o.id = p then [o.srv] else []) := by
    intro p
    unfold TreeV.counted
    dsimp only
    rw [List.filter_append, List.map_append]
    by_cases hp : o.id = p
    · rw [if_pos hp, List.filter_cons, if_pos (by simpa using hp)]
      dsimp only [List.filter_nil, List.map_cons, List.map_nil]
      rw [List.append_assoc, List.append_assoc]
      exact List.Perm.append_left _ List.perm_append_comm
    · rw [if_neg hp, List.filter_cons, if_neg (by simpa using hp)]
      simp
  refine ⟨fun p s2 hp => ?_, fun g hg => ?_, fun x hx => ?_, fun x hx => ?_⟩
  · rw [kids_perm (hcnt p)]
    rcases server_at hp with ⟨rfl, rfl⟩ | ⟨h0, x, hf, rfl⟩
    · by_cases hp : o.id = 0
      · rw [if_pos hp]
        rw [hp] at hs hk
        have : s = rootS := by unfold TreeV.server at hs; rw [if_pos rfl] at hs; exact (Option.some.inj hs).symm
        rw [← this]
        exact hk
      · rw [if_neg hp, List.append_nil]
        exact h.ok 0 rootS rfl
    · unfold TreeV.find at hf
      dsimp only at hf
      rw [List.find?_append] at hf
      cases hf2 : t.nodes.find? (fun n => decide (n.id = p)) with
      | some y =>
        rw [hf2] at hf
        obtain rfl : y = x := by simpa using hf
        have hsp : t.server p = some y.srv := by unfold TreeV.server TreeV.find; rw [if_neg h0, hf2]; rfl
        by_cases hp : o.id = p
        · rw [if_pos hp]
          rw [hp] at hs hk
          rw [hsp] at hs
          rw [Option.some.inj hs]
          exact hk
        · rw [if_neg hp, List.append_nil]
          exact h.ok p _ hsp
      | none =>
        rw [hf2] at hf
        simp only [Option.none_or, List.find?_cons, List.find?_nil] at hf
        have hlp : t.last + 1 = p := by
          by_cases e : t.last + 1 = p
          · exact e
          · rw [decide_eq_false e] at hf; cases hf
        rw [decide_eq_true hlp] at hf
        have hx := Option.some.inj hf
        rw [← hx]
        rw [if_neg (by omega), counted_nil (fun y hy => by have := hS.lw y hy; omega) (fun g hg => by have := h.gp g hg; omega)]
        exact leg_nil hl
  · have := h.gp g hg
    show g.par ≤ t.last + 1
    omega
  · show x.par = 0 ∨ ∃ y ∈ t.nodes ++ _, y.id = x.par
    rcases List.mem_append.1 (show x ∈ t.nodes ++ [_] from hx) with hx | hx
    · rcases h.up x hx with h1 | ⟨y, hy, e⟩
      · exact .inl h1
      · exact .inr ⟨y, List.mem_append_left _ hy, e⟩
    · rw [List.mem_singleton.1 hx]
      rcases server_at hs with ⟨h1, _⟩ | ⟨_, y, hf, _⟩
      · exact .inl h1
      · obtain ⟨hm, e⟩ := find_mem hf
        exact .inr ⟨y, List.mem_append_left _ hm, e⟩
  · rcases List.mem_append.1 (show x ∈ t.nodes ++ [_] from hx) with hx | hx
    · exact h.lg x hx
    · rw [List.mem_singleton.1 hx]; exact hl
theorem find_setNd {l : List Nd} {id p : Int} {f : Nd → Nd} (hf : ∀ x, (f x).id = x.id) : (setNd l id f).find? (fun n => decide (n.id = p)) = (l.find? fun n => decide (n.id = p)).map fun n => if n.id = id then f n else n := by
  unfold setNd
  rw [List.find?_map]
  congr 1
  congr 1
  funext n
  show decide ((if n.id = id then f n else n).id = p) = _
  split
  · rw [hf]
  · rfl
theorem swap_perm {α : Type} (A B G : List α) (a b : α) : (A ++ (a :: B) ++ (G ++ [b])).Perm (A ++ (b :: B) ++ G ++ [a]) := by
  have h1 : (A ++ (a :: B) ++ (G ++ [b])).Perm (a :: b :: (A ++ B ++ G)) := by
    refine (List.Perm.append_right _ List.perm_middle).trans ?_
    rw [List.cons_append]
    refine List.Perm.cons a ?_
    rw [← List.append_assoc]
    exact List.perm_append_singleton _ _
  have h2 : (A ++ (b :: B) ++ G ++ [a]).Perm (a :: b :: (A ++ B ++ G)) := by
    refine (List.perm_append_singleton _ _).trans ?_
    refine List.Perm.cons a ?_
    refine (List.Perm.append_right _ List.perm_middle).trans ?_
    rw [List.cons_append]
  exact h1.trans h2.symm
theorem Fit.resize {n : Nat} {t : TreeV} (hS : Sane n t) (h : Fit t) {o : OrdV} {x : Nd} (hl : o.srv.leg = true) (hf : t.find o.id = some x) (hc : t.counted o.id = []) (hk : kidsErr ((t.server x.par).getD rootS) (t.counted x.par ++ [o.srv]) = none) : Fit {t with nodes := setNd t.nodes o.id fun n => {n with srv := o.srv}, ghosts := t.ghosts ++ [(⟨x.par, x.srv, 0⟩ : Gh)]} := by
  obtain ⟨A, B, hN, hid, hot⟩ := find_split hS hf
  obtain ⟨hm, _⟩ := find_mem hf
  have hxl := hS.lw x hm
  obtain ⟨c1, c2⟩ := counted_no hc
  have hset : setNd t.nodes o.id (fun n => {n with srv := o.srv}) = A ++ ({x with srv := o.srv} : Nd) :: B := by rw [hN]; exact set_split hid hot
  refine ⟨fun p s hp => ?_, fun g hg => ?_, fun y hy => ?_, fun y hy => ?_⟩
  · by_cases hpo : p = o.id
    · have hs : s = o.srv := by
        rcases server_at hp with ⟨h1, _⟩ | ⟨_, y, hfy, rfl⟩
        · omega
        · unfold TreeV.find at hfy
          dsimp only at hfy
          rw [find_setNd (f := fun n => {n with srv := o.srv}) (fun _ => rfl), hpo, show t.nodes.find? _ = some x from hf] at hfy
          dsimp only [Option.map_some] at hfy
          rw [if_pos hid] at hfy
          rw [← Option.some.inj hfy]
      rw [hs, counted_nil (fun y hy => ?_) (fun g hg => ?_)]
      · exact leg_nil hl
      · obtain ⟨z, hz, ⟨_, e⟩ | ⟨_, e⟩⟩ := setNd_mem hy <;> (rw [hpo, e]; exact c1 z hz)
      · rcases List.mem_append.1 (show g ∈ t.ghosts ++ [_] from hg) with hg | hg
        · rw [hpo]; exact c2 g hg
        · rw [List.mem_singleton.1 hg]
          show x.par ≠ p
          omega
    · have hs : t.server p = some s := by
        rcases server_at hp with ⟨rfl, rfl⟩ | ⟨h0, y, hfy, rfl⟩
        · rfl
        · unfold TreeV.find at hfy
          dsimp only at hfy
          rw [find_setNd (f := fun n => {n with srv := o.srv}) (fun _ => rfl)] at hfy
          unfold TreeV.server TreeV.find
          rw [if_neg h0]
          cases hf2 : t.nodes.find? (fun n => decide (n.id = p)) with
          | none => rw [hf2] at hfy; cases hfy
          | some z =>
            rw [hf2] at hfy
            have hz : z.id ≠ o.id := by have := List.find?_some hf2; simp at this; omega
            dsimp only [Option.map_some] at hfy
            rw [if_neg hz] at hfy
            rw [Option.some.inj hfy]
            rfl
      have hcp : (({t with nodes := setNd t.nodes o.id fun n => {n with srv := o.srv}, ghosts := t.ghosts ++ [(⟨x.par, x.srv, 0⟩ : Gh)]} : TreeV).counted p).Perm (t.counted p ++ if x.par = p then [o.srv] else []) := by
        unfold TreeV.counted
        dsimp only
        rw [hset, hN]
        by_cases hp : x.par = p
        · rw [if_pos hp]
          simp only [List.filter_append, List.filter_cons, List.map_append, hp, decide_true, if_true, List.map_cons, List.filter_nil, List.map_nil]
          exact swap_perm _ _ _ _ _
        · rw [if_neg hp]
          simp only [List.filter_append, List.filter_cons, List.map_append, decide_eq_false hp, List.filter_nil, List.append_nil, Bool.false_eq_true, if_false]
          exact List.Perm.refl _
      rw [kids_perm hcp]
      by_cases hp : x.par = p
      · rw [if_pos hp]
        rw [hp, hs] at hk
        exact hk
      · rw [if_neg hp, List.append_nil]
        exact h.ok p s hs
  · rcases List.mem_append.1 (show g ∈ t.ghosts ++ [_] from hg) with hg | hg
    · exact h.gp g hg
    · rw [List.mem_singleton.1 hg]
      show x.par ≤ t.last
      omega
  · show y.par = 0 ∨ ∃ z ∈ setNd t.nodes o.id _, z.id = y.par
    have hup : ∀ z ∈ t.nodes, z.par = 0 ∨ ∃ v ∈ setNd t.nodes o.id (fun n => {n with srv := o.srv}), v.id = z.par := fun z hz => by
      rcases h.up z hz with h1 | ⟨v, hv, e⟩
      · exact .inl h1
      · refine .inr ⟨if v.id = o.id then {v with srv := o.srv} else v, List.mem_map.2 ⟨v, hv, rfl⟩, ?_⟩
        rw [← e]
        split <;> rfl
    obtain ⟨z, hz, ⟨_, e⟩ | ⟨_, e⟩⟩ := setNd_mem hy
    · rw [e]; exact hup z hz
    · rw [e]; exact hup z hz
  · obtain ⟨z, hz, ⟨_, e⟩ | ⟨_, e⟩⟩ := setNd_mem hy
    · rw [e]; exact h.lg z hz
    · rw [e]; exact hl
theorem del_perm {α : Type} (A B G : List α) (a : α) : (A ++ B ++ (G ++ [a])).Perm (A ++ (a :: B) ++ G) := by
  have h1 : (A ++ B ++ (G ++ [a])).Perm (a :: (A ++ B ++ G)) := by
    rw [← List.append_assoc]
    exact List.perm_append_singleton _ _
  have h2 : (A ++ (a :: B) ++ G).Perm (a :: (A ++ B ++ G)) := by
    refine (List.Perm.append_right _ List.perm_middle).trans ?_
    rw [List.cons_append]
  exact h1.trans h2.symm
theorem Fit.remove {n : Nat} {t : TreeV} (hS : Sane n t) (h : Fit t) {o : OrdV} {x : Nd} (hf : t.find o.id = some x) (hc : t.counted o.id = []) (m : Int) : Fit {t with nodes := t.nodes.filter fun x => decide (x.id ≠ o.id), ghosts := t.ghosts ++ [(⟨x.par, x.srv, m⟩ : Gh)]} := by
  obtain ⟨A, B, hN, hid, hot⟩ := find_split hS hf
  obtain ⟨hm, _⟩ := find_mem hf
  have hxl := hS.lw x hm
  obtain ⟨c1, c2⟩ := counted_no hc
  have hset : t.nodes.filter (fun x => decide (x.id ≠ o.id)) = A ++ B := by rw [hN]; exact del_split hid hot
  refine ⟨fun p s hp => ?_, fun g hg => ?_, fun y hy => ?_, fun y hy => h.lg y ((List.mem_filter.1 hy).1)⟩
  · have hs : t.server p = some s := by
      rcases server_at hp with ⟨rfl, rfl⟩ | ⟨h0, y, hfy, rfl⟩
      · rfl
      · unfold TreeV.find at hfy
        dsimp only at hfy
        unfold TreeV.server TreeV.find
        rw [if_neg h0]
        have hy := find_mem (t := {t with nodes := t.nodes.filter fun x => decide (x.id ≠ o.id)}) hfy
        have hyo : y.id ≠ o.id := by have := (List.mem_filter.1 hy.1).2; simpa using this
        have hpo : p ≠ o.id := fun e => hyo (hy.2.trans e)
        rw [List.find?_filter] at hfy
        have e1 : (fun a : Nd => decide (decide (a.id ≠ o.id) = true ∧ decide (a.id = p) = true)) = fun a => decide (a.id = p) := by
          funext a
          by_cases ha : a.id = p
          · rw [decide_eq_true ha, decide_eq_true (p := a.id ≠ o.id) (by omega)]; decide
          · rw [decide_eq_false ha]; simp
        rw [e1] at hfy
        rw [hfy]
        rfl
    have hcp : (({t with nodes := t.nodes.filter fun x => decide (x.id ≠ o.id), ghosts := t.ghosts ++ [(⟨x.par, x.srv, m⟩ : Gh)]} : TreeV).counted p).Perm (t.counted p) := by
      unfold TreeV.counted
      dsimp only
      rw [hset, hN]
      by_cases hp : x.par = p
      · simp only [List.filter_append, List.filter_cons, List.map_append, hp, decide_true, if_true, List.map_cons, List.filter_nil, List.map_nil]
        exact del_perm _ _ _ _
      · simp only [List.filter_append, List.filter_cons, List.map_append, decide_eq_false hp, List.filter_nil, List.append_nil, Bool.false_eq_true, if_false]
        exact List.Perm.refl _
    rw [kids_perm hcp]
    exact h.ok p s hs
  · rcases List.mem_append.1 (show g ∈ t.ghosts ++ [_] from hg) with hg | hg
    · exact h.gp g hg
    · rw [List.mem_singleton.1 hg]
      show x.par ≤ t.last
      omega
  · show y.par = 0 ∨ ∃ z ∈ t.nodes.filter (fun x => decide (x.id ≠ o.id)), z.id = y.par
    have hyn := (List.mem_filter.1 hy).1
    rcases h.up y hyn with h1 | ⟨v, hv, e⟩
    · exact .inl h1
    · refine .inr ⟨v, List.mem_filter.2 ⟨hv, ?_⟩, e⟩
      have := c1 y hyn
      rw [e]
      simpa using this
theorem Fit.bind {t : TreeV} (h : Fit t) (id : Int) (f : Nd → Nd) (hf : ∀ x, (f x).id = x.id ∧ (f x).par = x.par ∧ (f x).srv = x.srv) : Fit {t with nodes := setNd t.nodes id f} := by
  have key : ∀ z : Nd, (if z.id = id then f z else z).id = z.id ∧ (if z.id = id then f z else z).par = z.par ∧ (if z.id = id then f z else z).srv = z.srv := fun z => by
    split
    · exact hf z
    · exact ⟨rfl, rfl, rfl⟩
  have hcn : ∀ p, ({t with nodes := setNd t.nodes id f} : TreeV).counted p = t.counted p := fun p => by
    unfold TreeV.counted setNd
    dsimp only
    rw [List.filter_map, List.map_map]
    have e1 : ((fun n : Nd => decide (n.par = p)) ∘ fun n => if n.id = id then f n else n) = fun n => decide (n.par = p) := by
      funext g
      show decide ((if g.id = id then f g else g).par = p) = _
      rw [(key g).2.1]
    rw [e1]
    congr 1
    exact List.map_congr_left (fun g _ => (key g).2.2)
  have hsv : ∀ p, ({t with nodes := setNd t.nodes id f} : TreeV).server p = t.server p := fun p => by
    unfold TreeV.server TreeV.find
    by_cases h0 : p = 0
    · rw [if_pos h0, if_pos h0]
    · rw [if_neg h0, if_neg h0]
      dsimp only
      rw [find_setNd (fun x => (hf x).1), Option.map_map]
      congr 1
      funext z
      exact (key z).2.2
  refine ⟨fun p s hp => by rw [hcn]; exact h.ok p s (by rw [← hsv]; exact hp), h.gp, fun y hy => ?_, fun y hy => ?_⟩
  · have hup : ∀ z ∈ t.nodes, z.par = 0 ∨ ∃ v ∈ setNd t.nodes id f, v.id = z.par := fun z hz => by
      rcases h.up z hz with h1 | ⟨v, hv, e⟩
      · exact .inl h1
      · exact .inr ⟨_, List.mem_map.2 ⟨v, hv, rfl⟩, by rw [(key v).1]; exact e⟩
    obtain ⟨z, hz, rfl⟩ := List.mem_map.1 (show y ∈ t.nodes.map _ from hy)
    rw [(key z).2.1]
    exact hup z hz
  · obtain ⟨z, hz, rfl⟩ := List.mem_map.1 (show y ∈ t.nodes.map _ from hy)
    rw [(key z).2.2]
    exact h.lg z hz
theorem Fit.step {n : Nat} {t : TreeV} (hS : Sane n t) (h : Fit t) (o : OrdV) : Fit (t.apply o).1 := by
  rcases apply_cases t o with ⟨e, _⟩ | ⟨a0, a1, hc⟩
  · rw [e]; exact h
  have u := hS.tick (a := o.at_) a1
  have hF : Fit (t.tick o.at_) := h.less rfl rfl List.filter_sublist
  rcases hc with ⟨_, e⟩ | ⟨_, e⟩ | ⟨_, e⟩ | ⟨_, e⟩ <;> rw [e]
  · rcases create_cases (t.tick o.at_) o with ⟨c, _, e2⟩ | ⟨s, hl, hs, _, _, _, _, hk, e2⟩ <;> rw [e2]
    · exact hF
    · exact (hF.create u hl hs hk).drained _
  · rcases resize_cases (t.tick o.at_) o with ⟨c, _, e2⟩ | ⟨x, hl, hf, hcn, _, _, hk, e2⟩ <;> rw [e2]
    · exact hF
    · exact (hF.resize u hl hf hcn hk).drained _
  · rcases remove_cases (t.tick o.at_) o with ⟨c, _, e2⟩ | ⟨x, t1, hf, hcn, e3, e2⟩ <;> rw [e2]
    · exact hF
    · have := hF.remove u hf hcn (if kidsErr ((t1.server x.par).getD rootS) (t1.counted x.par) = none then (t.tick o.at_).now + drainI ((t1.server x.par).getD rootS) (t1.counted x.par) else 0)
      rw [e3] at this ⊢
      exact this
  · rcases bind_cases (t.tick o.at_) o with ⟨c, _, e2⟩ | ⟨x, _, hf, _, _, _, e2⟩ <;> rw [e2]
    · exact hF
    · exact hF.bind _ _ (fun _ => ⟨rfl, rfl, rfl⟩)
theorem fit_made (l : List OrdV) : Fit (madeV l) := by
  have key : ∀ (l : List OrdV) (n : Nat) (t : TreeV), Sane n t → Fit t → Fit (l.foldl (fun t o => (t.apply o).1) t) := by
    intro l
    induction l with
    | nil => intro n t _ h; exact h
    | cons o r ih => intro n t hS h; exact ih (n + 1) _ (hS.step o) (h.step hS o)
  exact key l 0 _ Sane.zero Fit.zero
end Go.Proofs.YtanfgipanfjcoaaGreatDoor
/- The trees that orders make: ghosts stay as long as they must. -/
namespace Go.Proofs.YtanfgipanfjcoaaGreatDoor
open Go.RowKit

theorem server_some {t : TreeV} {id : Int} (h : id = 0 ∨ ∃ y ∈ t.nodes, y.id = id) : ∃ s, t.server id = some s := by
  unfold TreeV.server
  by_cases h0 : id = 0
  · exact ⟨_, by rw [if_pos h0]⟩
  · rw [if_neg h0]
    rcases h with h | ⟨y, hy, e⟩
    · exact absurd h h0
    · unfold TreeV.find
      cases hf : t.nodes.find? (fun n => decide (n.id = id)) with
      | none =>
        have := List.find?_eq_none.1 hf y hy
        simp at this
        exact absurd e this
      | some x => exact ⟨_, rfl⟩
/-- What is counted below what is there fits. -/
theorem Fit.at {t : TreeV} (h : Fit t) {id : Int} (hi : id = 0 ∨ ∃ y ∈ t.nodes, y.id = id) : kidsErr ((t.server id).getD rootS) (t.counted id) = none := by
  obtain ⟨s, hs⟩ := server_some hi
  have := h.ok id s hs
  rw [hs]
  exact this
/-- Every ghost is one whose time has not run out. -/
def Live (t : TreeV) : Prop := ∀ g ∈ t.ghosts, t.now < g.till
theorem live_tick (t : TreeV) (a : Int) : Live (t.tick a) := fun g hg => by
  have := (List.mem_filter.1 hg).2
  exact of_decide_eq_true this
/-- The parent of a node is there, when the node was turned or is gone. -/
theorem par_resize {t : TreeV} (h : Fit t) {id : Int} {x : Nd} {f : Nd → Nd} (hf : ∀ x, (f x).id = x.id) (hx : t.find id = some x) : x.par = 0 ∨ ∃ y ∈ setNd t.nodes id f, y.id = x.par := by
  rcases h.up x (find_mem hx).1 with h1 | ⟨v, hv, e⟩
  · exact .inl h1
  · refine .inr ⟨_, List.mem_map.2 ⟨v, hv, rfl⟩, ?_⟩
    rw [← e]
    split
    · exact hf v
    · rfl
theorem par_remove {n : Nat} {t : TreeV} (hS : Sane n t) (h : Fit t) {id : Int} {x : Nd} (hx : t.find id = some x) : x.par = 0 ∨ ∃ y ∈ t.nodes.filter (fun z => decide (z.id ≠ id)), y.id = x.par := by
  obtain ⟨hm, hid⟩ := find_mem hx
  have hl := hS.lw x hm
  rcases h.up x hm with h1 | ⟨v, hv, e⟩
  · exact .inl h1
  · exact .inr ⟨v, List.mem_filter.2 ⟨hv, by simp; omega⟩, e⟩
theorem live_drained {t : TreeV} {p : Int} (hk : kidsErr ((t.server p).getD rootS) (t.counted p) = none) (h : ∀ g ∈ t.ghosts, t.now < g.till ∨ g.par = p) : Live (t.drained p) := by
  obtain ⟨f, h1, h2, h3⟩ := drained_at t p
  intro g hg
  rw [drained_now]
  rw [h2] at hg
  obtain ⟨z, hz, rfl⟩ := List.mem_map.1 hg
  rcases h z hz with h4 | h4
  · have := (h1 z).2.2
    omega
  · have := h3 hk z h4
    have := drainI_pos ((t.server p).getD rootS) (t.counted p)
    omega
theorem Live.step {n : Nat} {t : TreeV} (hS : Sane n t) (h : Fit t) (hL : Live t) (o : OrdV) : Live (t.apply o).1 := by
  rcases apply_cases t o with ⟨e, _⟩ | ⟨a0, a1, hc⟩
  · rw [e]; exact hL
  have u := hS.tick (a := o.at_) a1
  have hF : Fit (t.tick o.at_) := h.less rfl rfl List.filter_sublist
  have hT := live_tick t o.at_
  rcases hc with ⟨_, e⟩ | ⟨_, e⟩ | ⟨_, e⟩ | ⟨_, e⟩ <;> rw [e]
  · rcases create_cases (t.tick o.at_) o with ⟨c, _, e2⟩ | ⟨s, hl, hs, _, _, _, _, hk, e2⟩ <;> rw [e2]
    · exact hT
    · refine live_drained ((hF.create u hl hs hk).at ?_) (fun g hg => .inl (hT g hg))
      rcases server_at hs with ⟨h1, _⟩ | ⟨_, y, hf, _⟩
      · exact .inl h1
      · obtain ⟨hm, e⟩ := find_mem hf
        exact .inr ⟨y, List.mem_append_left _ hm, e⟩
  · rcases resize_cases (t.tick o.at_) o with ⟨c, _, e2⟩ | ⟨x, hl, hf, hcn, _, _, hk, e2⟩ <;> rw [e2]
    · exact hT
    · refine live_drained ((hF.resize u hl hf hcn hk).at (par_resize hF (fun _ => rfl) hf)) (fun g hg => ?_)
      rcases List.mem_append.1 (show g ∈ (t.tick o.at_).ghosts ++ [_] from hg) with hg | hg
      · exact .inl (hT g hg)
      · rw [List.mem_singleton.1 hg]; exact .inr rfl
  · rcases remove_cases (t.tick o.at_) o with ⟨c, _, e2⟩ | ⟨x, t1, hf, hcn, e3, e2⟩ <;> rw [e2]
    · exact hT
    · have hk : kidsErr ((t1.server x.par).getD rootS) (t1.counted x.par) = none := by
        rw [e3]
        exact (hF.remove u hf hcn 0).at (par_remove u hF hf)
      rw [if_pos hk]
      intro g hg
      rcases List.mem_append.1 (show g ∈ (t.tick o.at_).ghosts ++ [_] from hg) with hg | hg
      · rw [e3]; exact hT g hg
      · rw [List.mem_singleton.1 hg, e3]
        show (t.tick o.at_).now < (t.tick o.at_).now + drainI _ _
        have := drainI_pos ((t1.server x.par).getD rootS) (t1.counted x.par)
        rw [e3] at this
        omega
  · rcases bind_cases (t.tick o.at_) o with ⟨c, _, e2⟩ | ⟨x, _, hf, _, _, _, e2⟩ <;> rw [e2]
    · exact hT
    · exact fun g hg => hT g hg
theorem live_made (l : List OrdV) : Live (madeV l) := by
  have key : ∀ (l : List OrdV) (n : Nat) (t : TreeV), Sane n t → Fit t → Live t → Live (l.foldl (fun t o => (t.apply o).1) t) := by
    intro l
    induction l with
    | nil => intro n t _ _ h; exact h
    | cons o r ih => intro n t hS hF h; exact ih (n + 1) _ (hS.step o) (hF.step hS o) (h.step hS hF o)
  exact key l 0 _ Sane.zero Fit.zero (fun g hg => by cases hg)
/-- Of a refused order: the ghosts that are left. -/
theorem refused_ghosts {t : TreeV} (hL : Live t) {o : OrdV} (h : (t.apply o).2.1 ≠ 0) : (t.apply o).2.2 = 0 ∧ (t.apply o).1.nodes = t.nodes ∧ (t.apply o).1.last = t.last ∧ t.now ≤ (t.apply o).1.now ∧ (t.apply o).1.ghosts = t.ghosts.filter fun g => decide ((t.apply o).1.now < g.till) := by
  obtain ⟨h1, h2 | h2⟩ := apply_no t o h
  · rw [h2.1]
    refine ⟨h1, rfl, rfl, Int.le_refl _, ?_⟩
    rw [List.filter_eq_self.2 (fun g hg => by simpa using hL g hg)]
  · rw [h2]
    refine ⟨h1, rfl, rfl, ?_, rfl⟩
    show t.now ≤ max t.now o.at_
    omega
/-- A refused order, said again. -/
theorem apply_twice {t : TreeV} {o : OrdV} (h : (t.apply o).2.1 ≠ 0) : (t.apply o).1.apply o = t.apply o := by
  have key : ∀ (u : TreeV), u = t.tick o.at_ → u.tick o.at_ = u := by
    intro u hu
    have h1 : max u.now o.at_ = u.now := by rw [hu]; show max (max t.now o.at_) o.at_ = max t.now o.at_; omega
    have h2 : u.ghosts.filter (fun g => decide (max u.now o.at_ < g.till)) = u.ghosts := List.filter_eq_self.2 (fun g hg => by
      rw [h1]
      rw [hu] at hg ⊢
      simpa using live_tick t o.at_ g hg)
    unfold TreeV.tick
    rw [h2, h1]
  rcases apply_cases t o with ⟨e, _⟩ | ⟨a0, a1, hc⟩
  · rw [e]; exact e
  obtain ⟨u, hu⟩ : ∃ u, u = t.tick o.at_ := ⟨_, rfl⟩
  have ku := key u hu
  have hno : ∀ (r : TreeV → TreeV × Int × Int), t.apply o = r u → u.apply o = r (u.tick o.at_) → (r u).1 = u → (t.apply o).1.apply o = t.apply o := by
    intro r h1 h2 h3
    rw [h1, h3, h2, ku]
  have hap : u.apply o = if o.kd = 1 then (u.tick o.at_).create o else if o.kd = 2 then (u.tick o.at_).resize o else if o.kd = 3 then (u.tick o.at_).remove o else (u.tick o.at_).bind o := by
    unfold TreeV.apply
    rw [if_neg (by rcases hc with ⟨h1, _⟩ | ⟨h1, _⟩ | ⟨h1, _⟩ | ⟨h1, _⟩ <;> omega)]
  rw [← hu] at hc
  rcases hc with ⟨k1, e⟩ | ⟨k1, e⟩ | ⟨k1, e⟩ | ⟨k1, e⟩
  · refine hno (fun u => u.create o) e (by rw [hap, if_pos k1]) ?_
    rcases create_cases u o with ⟨c, _, e2⟩ | ⟨s, hl, hs, _, _, _, _, hk, e2⟩
    · rw [e2]
    · rw [e, e2] at h; exact absurd rfl h
  · refine hno (fun u => u.resize o) e (by rw [hap, if_neg (by omega), if_pos k1]) ?_
    rcases resize_cases u o with ⟨c, _, e2⟩ | ⟨x, hl, hf, hcn, _, _, hk, e2⟩
    · rw [e2]
    · rw [e, e2] at h; exact absurd rfl h
  · refine hno (fun u => u.remove o) e (by rw [hap, if_neg (by omega), if_neg (by omega), if_pos k1]) ?_
    rcases remove_cases u o with ⟨c, _, e2⟩ | ⟨x, t1, hf, hcn, e3, e2⟩
    · rw [e2]
    · rw [e, e2] at h; exact absurd rfl h
  · refine hno (fun u => u.bind o) e (by rw [hap, if_neg (by omega), if_neg (by omega), if_neg (by omega)]) ?_
    rcases bind_cases u o with ⟨c, _, e2⟩ | ⟨x, _, hf, _, _, _, e2⟩
    · rw [e2]
    · rw [e, e2] at h; exact absurd rfl h
end Go.Proofs.YtanfgipanfjcoaaGreatDoor
/- The chapter's examples: what they make. -/
namespace Go.Proofs.YtanfgipanfjcoaaGreatDoor
open Go.RowKit

abbrev sA : Srv := ⟨1, 2, 10⟩
theorem ask_sA (x : Int) (hx : 0 ≤ x) : demI [sA] x ≤ givI (rowI rootS) x := by
  have e1 : demI [sA] x = x / 10 * 2 := by
    show 0 + askedI sA x = _
    unfold askedI
    rw [if_neg (by decide)]
    show 0 + x / 10 * 2 = _
    omega
  have e2 : rowI rootS = ⟨0, 1, 1⟩ := by rfl
  rw [e1, e2]
  unfold givI givM
  dsimp only
  split <;> omega
theorem kids_sA : kidsErr rootS [sA] = none := by
  refine kids_of (by decide) (by decide) (by decide) ?_
  unfold belowB
  rw [List.all_eq_true]
  intro x hx
  have := stepsL_ok [sA] 4096 x hx
  exact decide_eq_true (ask_sA x (by omega))
theorem kids_sB : kidsErr sA [⟨1, 1, 10⟩] ≠ none := by
  intro h
  obtain ⟨h1, h2, h3, h4⟩ := kids_parts h
  have := below_all h1 (by decide) h4 10 (by decide)
  exact absurd this (by decide)
theorem drain_sA : drainI rootS [sA] = 2 := drainI_of (d := 2) (by decide) (by decide) (by decide) (fun k h1 h2 => by
  obtain rfl : k = 1 := by omega
  decide)
theorem ali1 : (⟨[], [], 0, 0⟩ : TreeV).apply ⟨1, 0, ⟨1, 2, 10⟩, 0, [], 0⟩ = (⟨[⟨1, 0, ⟨1, 2, 10⟩, 0, []⟩], [], 1, 0⟩, 0, 1) := by
  have hl : (⟨1, 2, 10⟩ : Srv).leg = true := by decide
  have hk := kids_sA
  simp [TreeV.apply, TreeV.tick, TreeV.create, TreeV.server, TreeV.find, TreeV.depth, TreeV.depthF, TreeV.counted, TreeV.drained, hl, hk]
theorem ali2 : ((⟨[⟨1, 0, ⟨1, 2, 10⟩, 0, []⟩], [], 1, 0⟩ : TreeV).apply ⟨1, 1, ⟨1, 1, 10⟩, 0, [], 0⟩).2 = (4, 0) := by
  have hl : (⟨1, 1, 10⟩ : Srv).leg = true := by decide
  have hk := kids_sB
  simp [TreeV.apply, TreeV.tick, TreeV.create, TreeV.server, TreeV.find, TreeV.depth, TreeV.depthF, TreeV.counted, hl, hk]
theorem ali3 : ((⟨[⟨1, 0, ⟨1, 2, 10⟩, 0, []⟩], [], 1, 0⟩ : TreeV).apply ⟨3, 1, ⟨0, 0, 0⟩, 0, [], 5⟩) = (⟨[], [⟨0, ⟨1, 2, 10⟩, 7⟩], 1, 5⟩, 0, 1) := by
  have hk := kids_sA
  have hd := drain_sA
  simp [TreeV.apply, TreeV.tick, TreeV.remove, TreeV.loose, TreeV.server, TreeV.find, TreeV.counted, hk, hd]
  exact ⟨by decide, by decide⟩
end Go.Proofs.YtanfgipanfjcoaaGreatDoor
