/- RoundHalves: the plain law. -/
import Derived.Test.YtblfljpmkgmjaaaDoorG22
import Derived.Test.YtblfljpmkgmjaaaDoorG18
namespace Go.Proofs.YtblfljpmkgmjaaaDoor

abbrev hb3 : Bal := ⟨3, 1⟩
def hst (N : Nat) (x : Ent) (s : Nat) (S : List Bool) : RndV :=
  if N < 2 * S.count true then (if s = 1 then ⟨List.replicate N false, x, false, hb3, 2, ⟨0, 0⟩, [x], 1⟩ else ⟨S, x, false, hb3, 3, ⟨0, 0⟩, [x], 1⟩)
  else ⟨S, x, false, hb3, s, ⟨0, 0⟩, if s = 1 then [] else [x], 1⟩
theorem count_no (N : Nat) : (List.replicate N false).count true = 0 := by rw [List.count_replicate]; rfl
theorem h_begin (N : Nat) (x : Ent) : (RndV.new N x false).begin hb3 = hst N x 1 (List.replicate N false) := by
  unfold hst
  rw [if_neg (by rw [count_no]; omega)]
  simp [RndV.begin, RndV.new, RndV.clr]
theorem count_set {S : List Bool} {f : Nat} (h : S[f]? = some false) : (S.set f true).count true = S.count true + 1 := by
  obtain ⟨h1, h2⟩ := List.getElem?_eq_some_iff.1 h
  have h3 := List.set_eq_take_append_cons_drop (l := S) (i := f) (a := true)
  rw [if_pos h1] at h3
  have h4 : S = S.take f ++ S[f] :: S.drop (f + 1) := by rw [List.getElem_cons_drop]; simp
  rw [h3]
  conv => rhs; rw [h4]
  rw [List.count_append, List.count_append, h2]
  simp
  omega
theorem set_same {S : List Bool} {f : Nat} (h : S[f]? = some true) : S.set f true = S := by
  obtain ⟨h1, h2⟩ := List.getElem?_eq_some_iff.1 h
  conv => lhs; rw [← h2]
  exact List.set_getElem_self h1
theorem h_low {N : Nat} {x : Ent} {s : Nat} {S : List Bool} (h : ¬ N < 2 * S.count true) : hst N x s S = ⟨S, x, false, hb3, s, ⟨0, 0⟩, if s = 1 then [] else [x], 1⟩ := by
  unfold hst
  rw [if_neg h]
theorem h_promise {N : Nat} {x : Ent} {S : List Bool} {f : Nat} {v : Bool} (h : ¬ N < 2 * S.count true) (hl : S.length = N) (hv : S[f]? = some v) :
    (hst N x 1 S).promise f hb3 ⟨0, 0⟩ [] = (!v, hst N x 1 (S.set f true)) := by
  rw [h_low h, if_pos rfl]
  cases v with
  | true =>
    have hh : (⟨S, x, false, hb3, 1, ⟨0, 0⟩, [], 1⟩ : RndV).hears 1 f hb3 = false := by simp [RndV.hears, hv]
    unfold RndV.promise
    rw [show ((1 : Nat) : Int) = 1 from rfl, hh, set_same hv, h_low h, if_pos rfl]
    rfl
  | false =>
    have hh : (⟨S, x, false, hb3, 1, ⟨0, 0⟩, [], 1⟩ : RndV).hears 1 f hb3 = true := by simp [RndV.hears, hv]
    have hn : (⟨S, x, false, hb3, 1, ⟨0, 0⟩, [], 1⟩ : RndV).hearNew f ⟨0, 0⟩ [] = ⟨S.set f true, x, false, hb3, 1, ⟨0, 0⟩, [], 1⟩ := by simp [RndV.hearNew, aboveB, RndV.note]
    have hc := count_set hv
    unfold RndV.promise
    rw [show ((1 : Nat) : Int) = 1 from rfl, hh, hn]
    by_cases hm : N < 2 * (S.set f true).count true
    · have hmm : (⟨S.set f true, x, false, hb3, 1, ⟨0, 0⟩, [], 1⟩ : RndV).most = true := by simp [RndV.most, hl]; omega
      rw [hmm]
      unfold hst
      rw [if_pos hm]
      simp [RndV.tell, plE, RndV.clr, hl]
    · have hmm : (⟨S.set f true, x, false, hb3, 1, ⟨0, 0⟩, [], 1⟩ : RndV).most = false := by simp [RndV.most, hl]; omega
      rw [hmm, h_low hm]
      simp
theorem h_accept {N : Nat} {x : Ent} {S : List Bool} {f : Nat} {v : Bool} (h : ¬ N < 2 * S.count true) (hl : S.length = N) (hv : S[f]? = some v) :
    (hst N x 2 S).accepted f hb3 = (!v, hst N x 2 (S.set f true)) := by
  rw [h_low h, if_neg (by decide)]
  cases v with
  | true =>
    have hh : (⟨S, x, false, hb3, 2, ⟨0, 0⟩, [x], 1⟩ : RndV).hears 2 f hb3 = false := by simp [RndV.hears, hv]
    unfold RndV.accepted
    rw [show ((2 : Nat) : Int) = 2 from rfl, hh, set_same hv, h_low h, if_neg (by decide)]
    rfl
  | false =>
    have hh : (⟨S, x, false, hb3, 2, ⟨0, 0⟩, [x], 1⟩ : RndV).hears 2 f hb3 = true := by simp [RndV.hears, hv]
    have hc := count_set hv
    have hn : (⟨S, x, false, hb3, 2, ⟨0, 0⟩, [x], 1⟩ : RndV).note f = ⟨S.set f true, x, false, hb3, 2, ⟨0, 0⟩, [x], 1⟩ := by simp [RndV.note]
    unfold RndV.accepted
    rw [show ((2 : Nat) : Int) = 2 from rfl, hh, hn]
    by_cases hm : N < 2 * (S.set f true).count true
    · have hmm : (⟨S.set f true, x, false, hb3, 2, ⟨0, 0⟩, [x], 1⟩ : RndV).most = true := by simp [RndV.most, hl]; omega
      rw [hmm]
      unfold hst
      rw [if_pos hm]
      simp
    · have hmm : (⟨S.set f true, x, false, hb3, 2, ⟨0, 0⟩, [x], 1⟩ : RndV).most = false := by simp [RndV.most, hl]; omega
      rw [hmm, h_low hm]
      simp
/-- What a round knows ahead of stage s. -/
def OutV (N : Nat) (x : Ent) (s : Nat) (V : RndV) : Prop := (s = 1 ∨ s = 2) ∧ V = hst N x s (List.replicate N false) ∨ s = 3 ∧ ∃ S, V = ⟨S, x, false, hb3, 3, ⟨0, 0⟩, [x], 1⟩
theorem out_next {N : Nat} {x : Ent} {s : Nat} {S : List Bool} (h : N < 2 * S.count true) (hs : s = 1 ∨ s = 2) : OutV N x (s + 1) (hst N x s S) := by
  rcases hs with rfl | rfl
  · refine .inl ⟨.inr rfl, ?_⟩
    rw [h_low (S := List.replicate N false) (by rw [count_no]; omega)]
    unfold hst
    rw [if_pos h]
    simp
  · refine .inr ⟨rfl, S, ?_⟩
    unfold hst
    rw [if_pos h]
    simp
theorem all_true {S : List Bool} {N : Nat} (hl : S.length = N) (h : ∀ j, j < N → S[j]? = some true) : S.count true = N := by
  have : S = List.replicate N true := by
    apply List.ext_getElem?
    intro i
    by_cases hi : i < N
    · rw [h i hi]; simp [hi]
    · rw [List.getElem?_eq_none (by omega), List.getElem?_eq_none (by simp; omega)]
  rw [this]
  simp
theorem out_place (S : List Bool) (x : Ent) : (⟨S, x, false, hb3, 3, ⟨0, 0⟩, [x], 1⟩ : RndV).place = 1 := by simp [RndV.place, RndV.told, plE, isKey]
end Go.Proofs.YtblfljpmkgmjaaaDoor
