/- append([]T{}, src...): a copy of the source. Nothing of the program is named here. -/
import Derived.Test.YtblfljpmkgmjaaaDoorR
namespace Go.Proofs.YtblfljpmkgmjaaaDoor
open Go.RowKit

section
variable {α : Type} {k : Nat} {enc : α → List Value}
/-- append([]T{}, src...): a copy of the source, which the call owns. -/
theorem wpList_copyN {P : Program} {w : World} {ops : Array Oper} {rest : List Oper} {o : Oper} {a : Act} {Q : Exit → Act → World → Prop} (hgd : o.guard = none) (s x : Operand) (t : TypeId)
    (ho : o.op = .call { callee := .builtin .append, args := #[s, x], argTypes := #[t, t] })
    (e : TypeId) (i : TypeInfo) (z : Value) (bytes : Nat) (ht : P.underlying t = some (.slice e)) (hi : P.info? e = some i) (hz : i.zero = some z)
    (hsize : i.size = k) (hby : i.bytes = bytes) (hzs : z.cells.size = k) (hsz : 0 < k)
    (hk : ∀ s, (enc s).length = k) (h1 : ∀ s, ∀ u ∈ enc s, u.oneCell' = true) (N : Nat) (hN : w.heap.size = N) (hs : a.eval s = .slice (some ⟨N, 0, none⟩) 0 0)
    (sa : Option Addr) (c : Nat) (l : List α) (hx : a.eval x = .slice sa l.length c) (hl : RecsAt k enc w sa l) (hc : sa = none → c = 0)
    (h63 : l.length ≤ maxLen) (hbytes : l.length * bytes ≤ 140737488355328)
    (h : ∀ v' w', w'.ownsRow w.heap.size e k v' l.length (l.flatMap enc) → Gr w w' → wpList P ops Q rest (a.put o.dst v') w') : wpList P ops Q (o :: rest) a (w.alloc (.cells #[] e)) := by
  subst hN
  have hl' : RecsAt k enc (w.alloc (.cells #[] e)) sa l := by
    intro i s hi
    obtain ⟨b, off, ha, hb, hcl⟩ := hl i s hi
    exact ⟨b, off, ha, by simp; omega, fun j u hu => by rw [((Gr.refl w).alloc (.cells #[] e)).cells.1 _ _ hb]; exact hcl j u hu⟩
  refine wpList_append_recs (k := k) (enc := enc) hgd s x t ho w.heap.size e i z bytes ht hi hz hsize hby hzs hsz hk h1 (.slice (some ⟨w.heap.size, 0, none⟩) 0 0) [] hs (owns_empty w e k _ rfl _ (Nat.le_refl _)) sa c l hx hl' hc (by simpa using h63) (by simpa using hbytes) (by simp) ?_
  intro v' w' hown hgr
  exact h v' w' hown (((Gr.refl w).alloc _).grown hgr (by simp [Value.ownBlock]))

end
end Go.Proofs.YtblfljpmkgmjaaaDoor
