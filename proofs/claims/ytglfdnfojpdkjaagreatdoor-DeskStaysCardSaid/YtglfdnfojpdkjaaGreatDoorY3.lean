/- The last numbers of clients: plain laws. -/
import Derived.Test.YtglfdnfojpdkjaaGreatDoorJ34
import Derived.Maps.RangeWalk
import Derived.Maps.OwnSet
namespace Go.Proofs.YtglfdnfojpdkjaaGreatDoor
open Go.RowKit

def maxStep (c : Int) (o : Option Int) (e : Ent) : Option Int := if e.cl = c then some (match o with | none => e.nu | some m => max m e.nu) else o
/-- A client's greatest number. -/
def maxNu (l : List Ent) (c : Int) : Option Int := l.foldl (maxStep c) none
theorem maxNu_snoc (l : List Ent) (e : Ent) (c : Int) : maxNu (l ++ [e]) c = maxStep c (maxNu l c) e := by unfold maxNu; rw [List.foldl_append]; rfl
def gtO (n : Int) : Option Int → Bool
  | none => false
  | some m => decide (n < m)
theorem old_max (l : List Ent) (c n : Int) : oldE l c n = gtO n (maxNu l c) := by
  have key : ∀ (l : List Ent) (o : Option Int), gtO n (l.foldl (maxStep c) o) = (gtO n o || l.any fun e => decide (e.cl = c) && decide (n < e.nu)) := by
    intro l
    induction l with
    | nil => intro o; simp
    | cons e r ih =>
      intro o
      rw [List.foldl_cons, ih, List.any_cons, ← Bool.or_assoc]
      congr 1
      unfold maxStep
      by_cases hc : e.cl = c
      · rw [if_pos hc, decide_eq_true hc, Bool.true_and]
        cases o with
        | none => rfl
        | some m =>
          show decide (n < max m e.nu) = (decide (n < m) || decide (n < e.nu))
          by_cases h1 : n < m
          · rw [decide_eq_true h1, decide_eq_true (by omega)]; rfl
          · rw [decide_eq_false h1, Bool.false_or]
            by_cases h2 : n < e.nu
            · rw [decide_eq_true h2, decide_eq_true (by omega)]
            · rw [decide_eq_false h2, decide_eq_false (by omega)]
      · rw [if_neg hc, decide_eq_false hc, Bool.false_and, Bool.or_false]
  unfold oldE maxNu
  rw [key l none]
  rfl
/-- The map holds each client's greatest number. -/
def MaxD (D : DataW Unit) (l : List Ent) : Prop := ∀ c : Int, match maxNu l c with
  | none => Maps.has D (.int .i64 c) = false
  | some m => Maps.has D (.int .i64 c) = true ∧ ∀ z, D.atKey (.int .i64 c) z = .lit (.int .i64 m)
theorem MaxD.nil : MaxD (.map []) [] := fun c => by
  show Maps.has (.map []) _ = false
  rfl
theorem MaxD.same {D : DataW Unit} {l : List Ent} {e : Ent} {m : Int} (h : MaxD D l) (hm : maxNu l e.cl = some m) (hn : ¬ m < e.nu) : MaxD D (l ++ [e]) := fun c => by
  rw [maxNu_snoc]
  unfold maxStep
  have h1 := h c
  by_cases hc : e.cl = c
  · rw [if_pos hc]
    rw [← hc, hm] at h1
    rw [← hc, hm]
    dsimp only at h1 ⊢
    rw [show max m e.nu = m by omega]
    exact h1
  · rw [if_neg hc]; exact h1
theorem MaxD.put {D : DataW Unit} {l : List Ent} {e : Ent} (h : MaxD D l) (hD : Maps.IsMap D) (hk : WideAt.IsKeyLit (.int .i64 e.cl)) (hm : ∀ m, maxNu l e.cl = some m → m < e.nu) : MaxD (D.put (.int .i64 e.cl) (.lit (.int .i64 e.nu))) (l ++ [e]) := fun c => by
  rw [maxNu_snoc]
  unfold maxStep
  have h1 := h c
  by_cases hc : e.cl = c
  · rw [if_pos hc]
    have hv : (match maxNu l c with | none => e.nu | some m => max m e.nu) = e.nu := by
      cases hx : maxNu l c with
      | none => rfl
      | some m =>
        have := hm m (by rw [hc]; exact hx)
        show max m e.nu = e.nu
        omega
    rw [hv, ← hc]
    exact ⟨Maps.has_put_same hD hk _, fun z => Maps.atKey_put_same hD hk _ z⟩
  · rw [if_neg hc]
    have hne : (Lit.int .i64 c) ≠ Lit.int .i64 e.cl := fun h => hc (by injection h with h1 h2; exact h2.symm)
    cases hx : maxNu l c with
    | none =>
      rw [hx] at h1
      show Maps.has _ _ = false
      rw [Maps.has_put_other hne]
      exact h1
    | some m =>
      rw [hx] at h1
      exact ⟨by rw [Maps.has_put_other hne]; exact h1.1, fun z => by rw [Maps.atKey_put_other hne]; exact h1.2 z⟩
end Go.Proofs.YtglfdnfojpdkjaaGreatDoor
