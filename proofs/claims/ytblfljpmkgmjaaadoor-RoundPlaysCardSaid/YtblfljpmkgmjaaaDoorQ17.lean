/- The program's round and the reference's, side by side. -/
import Derived.Test.YtblfljpmkgmjaaaDoorQ16
namespace Go.Proofs.YtblfljpmkgmjaaaDoor
open Go.RowKit

theorem RndAt.away {K0 : Nat → Prop} {T : List Nat} {w w' : World} {rb ab : Nat} {R : Rnd} (h : RndAt K0 w rb ab R) (g : GrX T w w') (h1 : rb ∉ T) (h2 : ab ∉ T) (hT : ∀ y, y ∈ T → ¬ K0 y) : RndAt K0 w' rb ab R :=
  ⟨h.o.grx g h1, h.b.grx g h2, h.ne, h.n7, h.x.grx g (fun y hy hk => hT y hy hk.2.2), h.l.grx g (fun y hy hk => hT y hy hk.2.2), h.lc, h.cap⟩
theorem RnAt.away {K0 : Nat → Prop} {T : List Nat} {w w' : World} {mb : Nat} {M : RnM} (h : RnAt K0 w mb M) (g : GrX T w w') (h1 : ∀ y, y ∈ T → y ∉ M.own mb) (hT : ∀ y, y ∈ T → ¬ K0 y) : RnAt K0 w' mb M := by
  refine ⟨h.o.grx g (fun hm => h1 mb hm (List.mem_cons_self ..)), h.n7, h.x.grx g (fun y hy hk => hT y hy hk.2), h.l.grx g (fun y hy hk => hT y hy hk.2), h.lc, h.cap, owns_gx h.h g (fun x hx hm => h1 x hm (RnM.own_blk hx)), h.hn, h.ct⟩
/-- A round of the program's and one of the reference's that know the same; K: where their lists may lie. -/
structure Pair (K : Nat → Prop) (w : World) (rb ab mb : Nat) (R : Rnd) (M : RnM) : Prop where
  r : RndAt (fun b => b ∉ M.own mb ∧ K b) w rb ab R
  m : RnAt (fun b => b ≠ rb ∧ b ≠ ab ∧ K b) w mb M
  dr : rb ∉ M.own mb
  da : ab ∉ M.own mb
  v : R.v = M.v
/-- The blocks that the pair's calls may turn. -/
abbrev pairT (rb ab mb : Nat) (M : RnM) : List Nat := rb :: ab :: M.own mb
theorem Pair.gr {K : Nat → Prop} {w w' : World} {rb ab mb : Nat} {R : Rnd} {M : RnM} (h : Pair K w rb ab mb R M) (g : Gr w w') : Pair K w' rb ab mb R M := ⟨h.r.gr g, h.m.gr g, h.dr, h.da, h.v⟩
/-- Behind a call of the program's round. -/
theorem Pair.byR {K : Nat → Prop} {w w' : World} {rb ab mb : Nat} {R R' : Rnd} {M : RnM} (h : Pair K w rb ab mb R M) (hr : RndAt (fun b => b ∉ M.own mb ∧ K b) w' rb ab R') (g : GrX [rb, ab] w w') : RnAt (fun b => b ≠ rb ∧ b ≠ ab ∧ K b) w' mb M :=
  h.m.away g (fun y hy => by simp at hy; rcases hy with rfl | rfl; exact h.dr; exact h.da) (fun y hy hk => by simp at hy; rcases hy with rfl | rfl; exact hk.1 rfl; exact hk.2.1 rfl)
/-- Behind a call of the reference's round. -/
theorem pair_byM {K : Nat → Prop} {w w' : World} {rb ab mb : Nat} {R : Rnd} {M M' : RnM} (hr : RndAt (fun b => b ∉ M.own mb ∧ K b) w rb ab R) (dr : rb ∉ M.own mb) (da : ab ∉ M.own mb) (hm : RnAt (fun b => b ≠ rb ∧ b ≠ ab ∧ K b) w' mb M') (g : GrX (M.own mb) w w') (ho : ∀ y, y ∈ M'.own mb → y ∈ M.own mb ∨ w.heap.size ≤ y) (hv : R.v = M'.v) : Pair K w' rb ab mb R M' := by
  have z1 := hr.o.lt
  have z2 := hr.b.lt
  have d1 : rb ∉ M'.own mb := fun hy => by rcases ho _ hy with h | h; exact dr h; omega
  have d2 : ab ∉ M'.own mb := fun hy => by rcases ho _ hy with h | h; exact da h; omega
  refine ⟨?_, hm, d1, d2, hv⟩
  have h1 : RndAt (fun b => b ∉ M.own mb ∧ b ∉ M'.own mb ∧ K b) w rb ab R := hr.mono (fun b hb h => ⟨h.1, fun hy => by rcases ho _ hy with h2 | h2; exact h.1 h2; omega, h.2⟩)
  exact (h1.away g dr da (fun y hy h => h.1 hy)).mono (fun b _ h => h.2)
/-- Other memory turned. -/
theorem Pair.away {K : Nat → Prop} {T : List Nat} {w w' : World} {rb ab mb : Nat} {R : Rnd} {M : RnM} (h : Pair K w rb ab mb R M) (g : GrX T w w') (h1 : ∀ y, y ∈ T → y ∉ pairT rb ab mb M) (hT : ∀ y, y ∈ T → ¬ K y) : Pair K w' rb ab mb R M :=
  ⟨h.r.away g (fun hy => h1 _ hy (by simp [pairT])) (fun hy => h1 _ hy (by simp [pairT])) (fun y hy hk => hT y hy hk.2), h.m.away g (fun y hy hm => h1 y hy (List.mem_cons_of_mem _ (List.mem_cons_of_mem _ hm))) (fun y hy hk => hT y hy hk.2.2), h.dr, h.da, h.v⟩
theorem Pair.mono {K K' : Nat → Prop} {w : World} {rb ab mb : Nat} {R : Rnd} {M : RnM} (h : Pair K w rb ab mb R M) (hk : ∀ b, b < w.heap.size → K b → K' b) : Pair K' w rb ab mb R M :=
  ⟨h.r.mono (fun b hb h => ⟨h.1, hk b hb h.2⟩), h.m.mono (fun b hb h => ⟨h.1, h.2.1, hk b hb h.2.2⟩), h.dr, h.da, h.v⟩
end Go.Proofs.YtblfljpmkgmjaaaDoor
