/- What order.Get needs: numbers in two parts, tasks appended. -/
import Derived.Test.YtlgbnjaoadlolaaDoorP22
import Derived.Test.YtlgbnjaoadlolaaDoorP15
namespace Go.Proofs.YtlgbnjaoadlolaaDoor
open Go.RowKit

theorem numsR_add : ∀ (a b : Nat) (l : List UInt8), numsR (a + b) l = (numsR a l).bind fun x => (numsR b (l.drop x.2)).map fun r => (x.1 ++ r.1, x.2 + r.2)
  | 0, b, l => by
    rw [Nat.zero_add]
    show _ = (numsR b (l.drop 0)).map _
    rw [List.drop_zero]
    cases numsR b l with
    | none => rfl
    | some q => show some q = some (_, _); rw [Nat.zero_add]; rfl
  | a + 1, b, l => by
    rw [show a + 1 + b = (a + b) + 1 by omega, numsR_succ, numsR_succ]
    cases numR l with
    | none => rfl
    | some q =>
      dsimp only
      by_cases hq : q.1 ≤ 1099511627776
      · rw [if_pos hq, if_pos hq, numsR_add a b (l.drop q.2)]
        cases hx : numsR a (l.drop q.2) with
        | none => rfl
        | some x =>
          show ((numsR b ((l.drop q.2).drop x.2)).map _).map _ = (numsR b (l.drop (q.2 + x.2))).map _
          rw [List.drop_drop, Option.map_map]
          congr 1
          funext r
          show (_, _) = (_, _)
          rw [Nat.add_assoc]
          rfl
      · rw [if_neg hq, if_neg hq]; rfl
theorem idx_ptr {t : TypeId} {n : Nat} {cs : Array Value} {k : Nat} {a : Addr} (w : World) (h : Tryd.prog.underlying t = some (.array n 71)) (hk : k < n) (hv : cs[k]? = some (.pointer (some a))) : (Instr.index t (.agg cs) (.int .i64 k)).run Tryd.prog w = .ok (.pointer (some a)) w := by
  have h1 : (0 : Int) ≤ (k : Int) ∧ (k : Int) < (n : Int) := by omega
  simp [Instr.index, run_underlying h, asIntOf, h1, hv, go_sem]
  omega
/-- append(own, src...) of tasks: whatever the world is. -/
theorem wpList_appT {B : Nat} {w : World} {ops : Array Oper} {rest : List Oper} {o : Oper} {a : Act} {Q : Exit → Act → World → Prop} (hgd : o.guard = none) (s x : Operand)
    (ho : o.op = .call { callee := .builtin .append, args := #[s, x], argTypes := #[27, 27] }) (a1 : Option Addr) (c1 n1 : Nat) (L1 : List Tsk) (hs : a.eval s = .slice a1 n1 c1) (hn : L1.length = n1) (hO : w.ownsRow B 117 4 (.slice a1 n1 c1) L1.length (L1.flatMap Tsk.cells))
    (sa : Option Addr) (c : Nat) (l : List Tsk) (hx : a.eval x = .slice sa l.length c) (hl : RecsAt 4 Tsk.cells w sa l) (hc : sa = none → c = 0) (hb : (n1 + l.length) * 32 ≤ 140737488355328) (hB : B ≤ w.heap.size)
    (h : ∀ a' c' w', w'.ownsRow B 117 4 (.slice a' (L1 ++ l).length c') (L1 ++ l).length ((L1 ++ l).flatMap Tsk.cells) → RecsAt 4 Tsk.cells w' a' (L1 ++ l) → (a' = none → c' = 0) → (∀ y, a' = some y → B ≤ y.block) → w.grownBy w' (Value.slice a1 n1 c1).ownBlock → wpList Tryd.prog ops Q rest (a.put o.dst (.slice a' (L1 ++ l).length c')) w') : wpList Tryd.prog ops Q (o :: rest) a w := by
  subst hn
  obtain ⟨i5, hi, hz0, hz1, hz2⟩ := info_parts Tryd.infoTsk
  refine wpList_append_recs (k := 4) (enc := Tsk.cells) hgd s x 27 ho B 117 i5 _ 32 Tryd.underlying27 hi hz0 hz1 hz2 rfl (by decide) Tsk.cells_len Tsk.cells_one (.slice a1 L1.length c1) L1 hs hO sa c l hx hl hc (by unfold maxLen; omega) hb hB ?_
  intro v2 w2 hown2 hgr2
  obtain ⟨a2, c2, hv2, hr2, hn2, hB2⟩ := recs_of_owns Tsk.cells_len hown2
  subst hv2
  exact h a2 c2 w2 hown2 hr2 hn2 hB2 hgr2
theorem RdAt.grown {K : Nat → Prop} {w w' : World} {rb : Nat} {p : List UInt8} {at_ : Nat} {row : Option Nat} (h : RdAt K w rb p at_) (hg : w.grownBy w' row) (h1 : ∀ k, row = some k → k ≠ rb ∧ ¬ K k) : RdAt K w' rb p at_ := by
  obtain ⟨a, c, e1, e2, e3, e4, e5⟩ := h
  refine ⟨a, c, e1.grown hg (fun e => (h1 rb e.symm).1 rfl), e2.grown hg (fun x hx _ e => (h1 _ e).2 (e4 x hx).2), e3, e4, e5⟩
theorem owns_tmax {w : World} {B : Nat} {e : TypeId} {k : Nat} {a : Option Addr} {n c : Nat} {xs : List Value} (h : w.ownsRow B e k (.slice a n c) n xs) : n ≤ c ∧ c ≤ maxLen := by
  rcases h.2 with hn | ⟨g, cap, cur, hv, hg, hh, hn, hm, _⟩
  · cases hn.1; exact ⟨by have := hn.2; omega, Nat.zero_le _⟩
  · cases hv; exact ⟨hn, hm⟩
theorem Blk.set10 {w : World} {b : Nat} {cs : Array Value} {t : TypeId} (h : Blk w b cs t) (hs : cs.size = 10) (v0 v1 v2 v3 v4 v5 v6 v7 v8 v9 : Value) : Blk ((((((((((w.setCell ⟨b, 0, none⟩ v0).setCell ⟨b, 1, none⟩ v1).setCell ⟨b, 2, none⟩ v2).setCell ⟨b, 3, none⟩ v3).setCell ⟨b, 4, none⟩ v4).setCell ⟨b, 5, none⟩ v5).setCell ⟨b, 6, none⟩ v6).setCell ⟨b, 7, none⟩ v7).setCell ⟨b, 8, none⟩ v8).setCell ⟨b, 9, none⟩ v9) b #[v0, v1, v2, v3, v4, v5, v6, v7, v8, v9] t := by
  obtain ⟨l⟩ := cs
  match l, hs with
  | [c0, c1, c2, c3, c4, c5, c6, c7, c8, c9], _ =>
    have h := (((((((((h.set 0 v0).set 1 v1).set 2 v2).set 3 v3).set 4 v4).set 5 v5).set 6 v6).set 7 v7).set 8 v8).set 9 v9
    simpa only [List.setIfInBounds_toArray, List.set_cons_zero, List.set_cons_succ] using h
theorem GrX.set10 {S : List Nat} {w a : World} {b : Nat} (h : GrX S w a) (hb : b ∈ S) (v0 v1 v2 v3 v4 v5 v6 v7 v8 v9 : Value) : GrX S w ((((((((((a.setCell ⟨b, 0, none⟩ v0).setCell ⟨b, 1, none⟩ v1).setCell ⟨b, 2, none⟩ v2).setCell ⟨b, 3, none⟩ v3).setCell ⟨b, 4, none⟩ v4).setCell ⟨b, 5, none⟩ v5).setCell ⟨b, 6, none⟩ v6).setCell ⟨b, 7, none⟩ v7).setCell ⟨b, 8, none⟩ v8).setCell ⟨b, 9, none⟩ v9) :=
  (((((((((h.set (p := ⟨b, 0, none⟩) (.inl hb) v0).set (p := ⟨b, 1, none⟩) (.inl hb) v1).set (p := ⟨b, 2, none⟩) (.inl hb) v2).set (p := ⟨b, 3, none⟩) (.inl hb) v3).set (p := ⟨b, 4, none⟩) (.inl hb) v4).set (p := ⟨b, 5, none⟩) (.inl hb) v5).set (p := ⟨b, 6, none⟩) (.inl hb) v6).set (p := ⟨b, 7, none⟩) (.inl hb) v7).set (p := ⟨b, 8, none⟩) (.inl hb) v8).set (p := ⟨b, 9, none⟩) (.inl hb) v9
theorem ten_of {l : List Nat} (h : l.length = 10) : ∃ a0 a1 a2 a3 a4 a5 a6 a7 a8 a9, l = [a0, a1, a2, a3, a4, a5, a6, a7, a8, a9] := by
  match l, h with
  | [a0, a1, a2, a3, a4, a5, a6, a7, a8, a9], _ => exact ⟨a0, a1, a2, a3, a4, a5, a6, a7, a8, a9, rfl⟩
theorem fourN_of {l : List Nat} (h : l.length = 4) : ∃ a0 a1 a2 a3, l = [a0, a1, a2, a3] := by
  match l, h with
  | [a0, a1, a2, a3], _ => exact ⟨a0, a1, a2, a3, rfl⟩
abbrev tskNat (t : Tsk) : List Nat := [t.c.toNat, t.p.toNat, t.d.toNat, t.s.toNat]
end Go.Proofs.YtlgbnjaoadlolaaDoor
