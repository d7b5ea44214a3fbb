/- The reference's round: who has been heard, as answers. -/
import Derived.Test.YtblfljpmkgmjaaaDoorG14
namespace Go.Proofs.YtblfljpmkgmjaaaDoor
open Go.RowKit

/-- Who has answered, of n. -/
def ansOf (n : Nat) (hs : List Nat) : List Bool := (List.range n).map fun i => decide (i ∈ hs)
theorem ansOf_len (n : Nat) (hs : List Nat) : (ansOf n hs).length = n := by simp [ansOf]
theorem ansOf_nil (n : Nat) : ansOf n [] = List.replicate n false := by
  unfold ansOf
  refine List.ext_getElem (by simp) fun i h1 h2 => ?_
  simp
theorem ansOf_get {n : Nat} {hs : List Nat} {i : Nat} (h : i < n) : (ansOf n hs)[i]? = some (decide (i ∈ hs)) := by
  unfold ansOf
  rw [List.getElem?_map, List.getElem?_range h]
  rfl
theorem ansOf_out {n : Nat} {hs : List Nat} {i : Nat} (h : n ≤ i) : (ansOf n hs)[i]? = none := by
  rw [List.getElem?_eq_none (by rw [ansOf_len]; exact h)]
theorem ansOf_note {n f : Nat} (hs : List Nat) : ansOf n (hs ++ [f]) = (ansOf n hs).set f true := by
  refine List.ext_getElem? fun i => ?_
  rw [List.getElem?_set]
  by_cases hi : i < n
  · rw [ansOf_get hi, ansOf_len]
    by_cases hf : f = i
    · subst hf
      rw [if_pos rfl, if_pos hi]
      simp
    · rw [if_neg hf, ansOf_get hi]
      simp [show ¬ i = f by omega]
  · rw [ansOf_out (by omega), ansOf_len]
    by_cases hf : f = i
    · subst hf
      rw [if_pos rfl, if_neg hi]
    · rw [if_neg hf, ansOf_out (by omega)]
theorem count_set : ∀ (l : List Bool) (f : Nat), l[f]? = some false → (l.set f true).count true = l.count true + 1
  | [], f, h => by simp at h
  | x :: l, 0, h => by
    obtain rfl : x = false := by simpa using h
    simp
  | x :: l, f + 1, h => by
    have := count_set l f (by simpa using h)
    rw [List.set_cons_succ, List.count_cons, List.count_cons, this]
    omega
/-- A round hears in the reference's way. -/
theorem hears_ref (r : RndV) (n : Nat) (hs : List Nat) (ha : r.an = ansOf n hs) (st fr : Int) (b : Bal) : r.hears st fr b = (decide (r.st = st) && decide (b.r = r.bal.r ∧ b.n = r.bal.n) && decide (0 ≤ fr) && decide (fr < n) && !decide (fr.toNat ∈ hs)) := by
  unfold RndV.hears
  rw [ha]
  by_cases h1 : 0 ≤ fr
  · by_cases h2 : fr < n
    · rw [ansOf_get (show fr.toNat < n by omega), decide_eq_true h1, decide_eq_true h2]
      by_cases hm : fr.toNat ∈ hs <;> simp [hm, h1]
    · rw [ansOf_out (show n ≤ fr.toNat by omega), decide_eq_false h2]
      simp
  · rw [decide_eq_false h1, decide_eq_false (fun h => h1 h.2.2.2.1)]
    simp
end Go.Proofs.YtblfljpmkgmjaaaDoor
