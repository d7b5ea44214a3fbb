/- A tree's nodes and ghosts, as they lie in memory. Printed by gen_t1.py (turned from G1). -/
import Derived.Test.YtglfdnfojpdkjaaGreatDoorJ1
import Derived.Lib.SliceRun
namespace Go.Proofs.YtglfdnfojpdkjaaGreatDoor
open Go.RowKit

/-- A node. -/
structure Nd where
  id : Int
  par : Int
  srv : Srv
  pol : Int
  tasks : List Tsk
abbrev Nd.cells (e : Nd) (a : Option Addr) (c : Nat) : List Value := [.int .i64 e.id, .int .i64 e.par, .int .i64 e.srv.k, .int .i64 e.srv.q, .int .i64 e.srv.t, .int .i64 e.pol, .slice a e.tasks.length c]
/-- A node as it lies: the node, its tasks' place. -/
structure NdM where
  e : Nd
  a : Option Addr
  c : Nat
abbrev NdM.cells (x : NdM) : List Value := x.e.cells x.a x.c
theorem NdM.cells_len (x : NdM) : x.cells.length = 7 := rfl
theorem NdM.cells_one (x : NdM) : ∀ u ∈ x.cells, u.oneCell' = true := by
  intro u hu
  simp at hu
  rcases hu with rfl | rfl | rfl | rfl | rfl | rfl | rfl <;> rfl
/-- Its tasks lie where it says, in blocks of which K holds. -/
def NdM.ok (K : Nat → Prop) (w : World) (x : NdM) : Prop := RecsIn K 4 Tsk.cells w x.a x.e.tasks ∧ (x.a = none → x.c = 0) ∧ x.e.tasks.length ≤ x.c ∧ x.c ≤ maxLen ∧ x.e.tasks.length * 32 ≤ 140737488351232
theorem NdM.ok.grx {K : Nat → Prop} {T : List Nat} {w w' : World} {x : NdM} (h : x.ok K w) (g : GrX T w w') (hT : ∀ y, y ∈ T → ¬ K y) : x.ok K w' := ⟨h.1.grx g hT, h.2⟩
theorem NdM.ok.mono {K K' : Nat → Prop} {w : World} {x : NdM} (h : x.ok K w) (hk : ∀ b, b < w.heap.size → K b → K' b) : x.ok K' w := ⟨h.1.mono hk, h.2⟩
theorem NdM.ok.grown {K : Nat → Prop} {w w' : World} {x : NdM} {row : Option Nat} (h : x.ok K w) (hg : w.grownBy w' row) (hne : ∀ ad, x.a = some ad → x.e.tasks ≠ [] → row ≠ some ad.block) : x.ok K w' := ⟨⟨h.1.1.grown hg hne, h.1.2⟩, h.2⟩
/-- Nodes in memory, in blocks of which K holds. -/
def NodM (K : Nat → Prop) (w : World) (a : Option Addr) (L : List NdM) : Prop := RecsIn K 7 NdM.cells w a L ∧ ∀ x ∈ L, x.ok K w
theorem NodM.grx {K : Nat → Prop} {T : List Nat} {w w' : World} {a : Option Addr} {L : List NdM} (h : NodM K w a L) (g : GrX T w w') (hT : ∀ y, y ∈ T → ¬ K y) : NodM K w' a L :=
  ⟨h.1.grx g hT, fun x hx => (h.2 x hx).grx g hT⟩
theorem NodM.mono {K K' : Nat → Prop} {w : World} {a : Option Addr} {L : List NdM} (h : NodM K w a L) (hk : ∀ b, b < w.heap.size → K b → K' b) : NodM K' w a L := ⟨h.1.mono hk, fun x hx => (h.2 x hx).mono hk⟩
theorem NodM.nil (K : Nat → Prop) (w : World) (a : Option Addr) : NodM K w a [] := ⟨RecsIn.nil _ _ _ _ _, fun _ h => by cases h⟩
theorem NodM.gr {K : Nat → Prop} {w w' : World} {a : Option Addr} {L : List NdM} (h : NodM K w a L) (g : Gr w w') : NodM K w' a L := h.grx (T := []) (g.x []) (fun _ h => by cases h)
theorem NdM.ok.gr {K : Nat → Prop} {w w' : World} {x : NdM} (h : x.ok K w) (g : Gr w w') : x.ok K w' := h.grx (T := []) (g.x []) (fun _ h => by cases h)
/-- The cells of a node. -/
theorem NodM.get {K : Nat → Prop} {w : World} {a : Option Addr} {L : List NdM} (h : NodM K w a L) {i : Nat} {x : NdM} (hx : L[i]? = some x) :
    ∃ b off, a = some ⟨b, off, none⟩ ∧ b < w.heap.size ∧ K b ∧ w.cell? ⟨b, off + i * 7, none⟩ = some (.int .i64 x.e.id) ∧ w.cell? ⟨b, off + i * 7 + 1, none⟩ = some (.int .i64 x.e.par) ∧ w.cell? ⟨b, off + i * 7 + 2, none⟩ = some (.int .i64 x.e.srv.k) ∧ w.cell? ⟨b, off + i * 7 + 3, none⟩ = some (.int .i64 x.e.srv.q) ∧ w.cell? ⟨b, off + i * 7 + 4, none⟩ = some (.int .i64 x.e.srv.t) ∧ w.cell? ⟨b, off + i * 7 + 5, none⟩ = some (.int .i64 x.e.pol) ∧ w.cell? ⟨b, off + i * 7 + 6, none⟩ = some (.slice x.a x.e.tasks.length x.c) := by
  obtain ⟨b, off, ha, hb, hc⟩ := h.1.1 i x hx
  exact ⟨b, off, ha, hb, h.1.2 _ ha (fun e => by rw [e] at hx; cases hx), hc 0 _ rfl, hc 1 _ rfl, hc 2 _ rfl, hc 3 _ rfl, hc 4 _ rfl, hc 5 _ rfl, hc 6 _ rfl⟩

/-- A ghost. -/
structure Gh where
  par : Int
  srv : Srv
  till : Int
abbrev Gh.cells (g : Gh) : List Value := [.int .i64 g.par, .int .i64 g.srv.k, .int .i64 g.srv.q, .int .i64 g.srv.t, .int .i64 g.till]
theorem Gh.cells_len (g : Gh) : g.cells.length = 5 := rfl
theorem Gh.cells_one (g : Gh) : ∀ u ∈ g.cells, u.oneCell' = true := by
  intro u hu
  simp at hu
  rcases hu with rfl | rfl | rfl | rfl | rfl <;> rfl
/-- The cells of a ghost. -/
theorem gh_get {K : Nat → Prop} {w : World} {a : Option Addr} {L : List Gh} (h : RecsIn K 5 Gh.cells w a L) {i : Nat} {x : Gh} (hx : L[i]? = some x) :
    ∃ b off, a = some ⟨b, off, none⟩ ∧ b < w.heap.size ∧ K b ∧ w.cell? ⟨b, off + i * 5, none⟩ = some (.int .i64 x.par) ∧ w.cell? ⟨b, off + i * 5 + 1, none⟩ = some (.int .i64 x.srv.k) ∧ w.cell? ⟨b, off + i * 5 + 2, none⟩ = some (.int .i64 x.srv.q) ∧ w.cell? ⟨b, off + i * 5 + 3, none⟩ = some (.int .i64 x.srv.t) ∧ w.cell? ⟨b, off + i * 5 + 4, none⟩ = some (.int .i64 x.till) := by
  obtain ⟨b, off, ha, hb, hc⟩ := h.1 i x hx
  exact ⟨b, off, ha, hb, h.2 _ ha (fun e => by rw [e] at hx; cases hx), hc 0 _ rfl, hc 1 _ rfl, hc 2 _ rfl, hc 3 _ rfl, hc 4 _ rfl⟩
/-- A tree. -/
structure TreeV where
  nodes : List Nd
  ghosts : List Gh
  last : Int
  now : Int
/-- A tree as it lies. -/
structure TM where
  N : List NdM
  an : Option Addr
  cn : Nat
  G : List Gh
  ag : Option Addr
  cg : Nat
  last : Int
  now : Int
abbrev TM.v (T : TM) : TreeV := ⟨T.N.map (·.e), T.G, T.last, T.now⟩
abbrev TM.row (T : TM) : Array Value := #[.slice T.an T.N.length T.cn, .slice T.ag T.G.length T.cg, .int .i64 T.last, .int .i64 T.now]
/-- The tree's nodes, their tasks and its ghosts lie where it says, in blocks of which K holds. -/
structure TreeAt (K : Nat → Prop) (w : World) (T : TM) : Prop where
  n : NodM K w T.an T.N
  nn : T.an = none → T.cn = 0
  g : RecsIn K 5 Gh.cells w T.ag T.G
  gn : T.ag = none → T.cg = 0
  l1 : T.N.length ≤ 1000000
  l2 : T.G.length ≤ 1000000
theorem TreeAt.grx {K : Nat → Prop} {S : List Nat} {w w' : World} {T : TM} (h : TreeAt K w T) (g : GrX S w w') (hT : ∀ y, y ∈ S → ¬ K y) : TreeAt K w' T := ⟨h.n.grx g hT, h.nn, h.g.grx g hT, h.gn, h.l1, h.l2⟩
theorem TreeAt.gr {K : Nat → Prop} {w w' : World} {T : TM} (h : TreeAt K w T) (g : Gr w w') : TreeAt K w' T := h.grx (S := []) (g.x []) (fun _ h => by cases h)
theorem TreeAt.mono {K K' : Nat → Prop} {w : World} {T : TM} (h : TreeAt K w T) (hk : ∀ b, b < w.heap.size → K b → K' b) : TreeAt K' w T := ⟨h.n.mono hk, h.nn, h.g.mono hk, h.gn, h.l1, h.l2⟩
theorem TreeAt.any {K : Nat → Prop} {w : World} {T : TM} (h : TreeAt K w T) : TreeAt Any w T := h.mono (fun _ _ _ => trivial)
theorem TreeAt.none (K : Nat → Prop) (w : World) (l n : Int) : TreeAt K w ⟨[], .none, 0, [], .none, 0, l, n⟩ := ⟨NodM.nil _ _ _, fun _ => rfl, RecsIn.nil _ _ _ _ _, fun _ => rfl, by simp, by simp⟩
end Go.Proofs.YtglfdnfojpdkjaaGreatDoor
/- Clones of tasks and of ghosts, whose rows can be written. Printed by gen_t2.py (turned from Q21). -/
namespace Go.Proofs.YtglfdnfojpdkjaaGreatDoor
open Go.RowKit

theorem owns_cap {w : World} {base : Nat} {e : TypeId} {size : Nat} {v : Value} {n : Nat} {xs : List Value} {a : Option Addr} {m c : Nat} (h : w.ownsRow base e size v n xs) (hv : v = .slice a m c) : n ≤ c ∧ c ≤ maxLen := by
  obtain ⟨_, ⟨h1, h2⟩ | ⟨g, cap, cur, h1, _, _, h2, h3, _⟩⟩ := h
  · rw [hv] at h1; cases h1; exact ⟨by omega, Nat.zero_le _⟩
  · rw [hv] at h1; cases h1; exact ⟨h2, h3⟩

theorem owns_free {w : World} {base : Nat} {e : TypeId} {size : Nat} {n m c : Nat} {xs : List Value} {a : Option Addr} {ad : Addr} (h : w.ownsRow base e size (.slice a m c) n xs) (ha : a = some ad) (o : Nat) : w.frozen? ⟨ad.block, o, none⟩ = false := by
  obtain ⟨_, hn | ⟨g, cap, cur, hv, _, hh, _⟩⟩ := h
  · rw [ha] at hn; cases hn.1
  · rw [ha] at hv; cases hv; simp [World.frozen?, hh]
/-- A slice that was made anew, and can be written. -/
def NewF {α : Type} (k : Nat) (enc : α → List Value) (e : TypeId) (l : List α) (w : World) (x : Ending) (w' : World) : Prop :=
  ∃ a c, x = .returned (.slice a l.length c) ∧ RecsIn (fun b => w.heap.size ≤ b) k enc w' a l ∧ (a = none → c = 0) ∧ l.length ≤ c ∧ c ≤ maxLen ∧ Gr w w' ∧ (∀ ad, a = some ad → l ≠ [] → ∀ o, w'.frozen? ⟨ad.block, o, none⟩ = false) ∧ w'.ownsRow w.heap.size e k (.slice a l.length c) l.length (l.flatMap enc)
set_option maxRecDepth 100000 in
set_option maxHeartbeats 800000 in
theorem cloneF_any (a : Option Addr) (c : Nat) (l : List Tsk) (w : World) (h : RecsAt 4 Tsk.cells w a l) (hc : a = none → c = 0) (hm : l.length * 32 ≤ 140737488351232) :
    Calls Tryz.prog 95 #[.slice a l.length c] w (NewF 4 Tsk.cells 115 l w) := by
  obtain ⟨i72, hi, hz0, hz1, hz2⟩ := info_parts Tryz.infoTsk
  have hmm : l.length ≤ maxLen := by unfold maxLen; omega
  have n2 : l.length * 32 ≤ 140737488355328 := by omega
  have hnil := fun (w : World) a n c => Lib.run_eql_slice_nil (P := Tryz.prog) w 25 115 a n c 0 0 Tryz.underlying25
  cases a with
  | none =>
    obtain rfl := hc rfl
    obtain rfl : l = [] := by
      cases l with
      | nil => rfl
      | cons y r => obtain ⟨b, off, hh, _⟩ := h 0 y rfl; cases hh
    go_enter Tryz.func95, Tryz.ntmps95
    go_wp2_with fail
    go_ret
    exact ⟨none, 0, rfl, RecsIn.nil _ _ _ _ _, (fun _ => rfl), Nat.le_refl _, Nat.zero_le _, Gr.refl _, (fun _ h => by cases h), World.ownsRow_nil _ _ _ _⟩
  | some ad =>
    go_enter Tryz.func95, Tryz.ntmps95
    go_wp2_with (at_builtin; refine wpList_copyN (k := 4) (enc := Tsk.cells) rfl _ _ 25 rfl 115 i72 _ 32 Tryz.underlying25 hi hz0 hz1 hz2 rfl (by decide) Tsk.cells_len Tsk.cells_one w.heap.size rfl rfl (some ad) c l rfl h hc hmm n2 ?_; intro v1 w1 hown g1)
    obtain ⟨a', c', rfl, hr, hn, hb⟩ := recs_of_owns Tsk.cells_len hown
    have hcap := owns_cap hown rfl
    go_wp2_with fail
    go_ret
    exact ⟨a', c', rfl, ⟨hr, fun x hx _ => hb x hx⟩, hn, hcap.1, hcap.2, g1, fun ad ha _ o => owns_free hown ha o, hown⟩

theorem Tryz.infoGh : (Tryz.prog.info? 65).map (fun i => (i.zero, i.size, i.bytes)) = some (some (.agg #[.int .i64 0, .int .i64 0, .int .i64 0, .int .i64 0, .int .i64 0]), 5, 40) := by kernel_rfl
theorem Tryz.infoNd : (Tryz.prog.info? 90).map (fun i => (i.zero, i.size, i.bytes)) = some (some (.agg #[.int .i64 0, .int .i64 0, .int .i64 0, .int .i64 0, .int .i64 0, .int .i64 0, .slice none 0 0]), 7, 72) := by kernel_rfl
set_option maxRecDepth 100000 in
set_option maxHeartbeats 800000 in
theorem cloneG_any (a : Option Addr) (c : Nat) (l : List Gh) (w : World) (h : RecsAt 5 Gh.cells w a l) (hc : a = none → c = 0) (hm : l.length * 40 ≤ 140737488351232) :
    Calls Tryz.prog 96 #[.slice a l.length c] w (NewF 5 Gh.cells 65 l w) := by
  obtain ⟨i72, hi, hz0, hz1, hz2⟩ := info_parts Tryz.infoGh
  have hmm : l.length ≤ maxLen := by unfold maxLen; omega
  have n2 : l.length * 40 ≤ 140737488355328 := by omega
  have hnil := fun (w : World) a n c => Lib.run_eql_slice_nil (P := Tryz.prog) w 33 65 a n c 0 0 Tryz.underlying33
  cases a with
  | none =>
    obtain rfl := hc rfl
    obtain rfl : l = [] := by
      cases l with
      | nil => rfl
      | cons y r => obtain ⟨b, off, hh, _⟩ := h 0 y rfl; cases hh
    go_enter Tryz.func96, Tryz.ntmps96
    go_wp2_with fail
    go_ret
    exact ⟨none, 0, rfl, RecsIn.nil _ _ _ _ _, (fun _ => rfl), Nat.le_refl _, Nat.zero_le _, Gr.refl _, (fun _ h => by cases h), World.ownsRow_nil _ _ _ _⟩
  | some ad =>
    go_enter Tryz.func96, Tryz.ntmps96
    go_wp2_with (at_builtin; refine wpList_copyN (k := 5) (enc := Gh.cells) rfl _ _ 33 rfl 65 i72 _ 40 Tryz.underlying33 hi hz0 hz1 hz2 rfl (by decide) Gh.cells_len Gh.cells_one w.heap.size rfl rfl (some ad) c l rfl h hc hmm n2 ?_; intro v1 w1 hown g1)
    obtain ⟨a', c', rfl, hr, hn, hb⟩ := recs_of_owns Gh.cells_len hown
    have hcap := owns_cap hown rfl
    go_wp2_with fail
    go_ret
    exact ⟨a', c', rfl, ⟨hr, fun x hx _ => hb x hx⟩, hn, hcap.1, hcap.2, g1, fun ad ha _ o => owns_free hown ha o, hown⟩
end Go.Proofs.YtglfdnfojpdkjaaGreatDoor
