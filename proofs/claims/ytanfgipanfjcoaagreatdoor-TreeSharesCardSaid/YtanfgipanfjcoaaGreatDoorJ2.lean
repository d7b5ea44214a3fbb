/- A tree's nodes and ghosts, as they lie in memory. Printed by gen_t1.py (turned from G1). -/
import Derived.Test.YtanfgipanfjcoaaGreatDoorJ1
import Derived.Lib.SliceRun
namespace Go.Proofs.YtanfgipanfjcoaaGreatDoor
open Go.RowKit

/-- A node. -/
structure Nd where
  id : Int
  par : Int
  srv : Srv
  pol : Int
  tasks : List Tsk
abbrev Nd.cells (e : Nd) (a : Option Addr) (c : Nat) : List Value := [.int .i64 e.id, .int .i64 e.par, .int .i64 e.srv.k, .int .i64 e.srv.q, .int .i64 e.srv.t, .int .i64 e.pol, .slice a e.tasks.length c]
/-- A node as it lies: the node, its tasks' place. -/
structure NdM where
  e : Nd
  a : Option Addr
  c : Nat
abbrev NdM.cells (x : NdM) : List Value := x.e.cells x.a x.c
theorem NdM.cells_len (x : NdM) : x.cells.length = 7 := rfl
theorem NdM.cells_one (x : NdM) : ∀ u ∈ x.cells, u.oneCell' = true := by
  intro u hu
  simp at hu
  rcases hu with rfl | rfl | rfl | rfl | rfl | rfl | rfl <;> rfl
/-- Its tasks lie where it says, in blocks of which K holds. -/
def NdM.ok (K : Nat → Prop) (w : World) (x : NdM) : Prop := RecsIn K 4 Tsk.cells w x.a x.e.tasks ∧ (x.a = none → x.c = 0) ∧ x.e.tasks.length ≤ x.c ∧ x.c ≤ maxLen ∧ x.e.tasks.length * 32 ≤ 140737488351232
theorem NdM.ok.grx {K : Nat → Prop} {T : List Nat} {w w' : World} {x : NdM} (h : x.ok K w) (g : GrX T w w') (hT : ∀ y, y ∈ T → ¬ K y) : x.ok K w' := ⟨h.1.grx g hT, h.2⟩
theorem NdM.ok.mono {K K' : Nat → Prop} {w : World} {x : NdM} (h : x.ok K w) (hk : ∀ b, b < w.heap.size → K b → K' b) : x.ok K' w := ⟨h.1.mono hk, h.2⟩
theorem NdM.ok.grown {K : Nat → Prop} {w w' : World} {x : NdM} {row : Option Nat} (h : x.ok K w) (hg : w.grownBy w' row) (hne : ∀ ad, x.a = some ad → x.e.tasks ≠ [] → row ≠ some ad.block) : x.ok K w' := ⟨⟨h.1.1.grown hg hne, h.1.2⟩, h.2⟩
/-- Nodes in memory, in blocks of which K holds. -/
def NodM (K : Nat → Prop) (w : World) (a : Option Addr) (L : List NdM) : Prop := RecsIn K 7 NdM.cells w a L ∧ ∀ x ∈ L, x.ok K w
theorem NodM.grx {K : Nat → Prop} {T : List Nat} {w w' : World} {a : Option Addr} {L : List NdM} (h : NodM K w a L) (g : GrX T w w') (hT : ∀ y, y ∈ T → ¬ K y) : NodM K w' a L :=
  ⟨h.1.grx g hT, fun x hx => (h.2 x hx).grx g hT⟩
theorem NodM.mono {K K' : Nat → Prop} {w : World} {a : Option Addr} {L : List NdM} (h : NodM K w a L) (hk : ∀ b, b < w.heap.size → K b → K' b) : NodM K' w a L := ⟨h.1.mono hk, fun x hx => (h.2 x hx).mono hk⟩
theorem NodM.nil (K : Nat → Prop) (w : World) (a : Option Addr) : NodM K w a [] := ⟨RecsIn.nil _ _ _ _ _, fun _ h => by cases h⟩
theorem NodM.gr {K : Nat → Prop} {w w' : World} {a : Option Addr} {L : List NdM} (h : NodM K w a L) (g : Gr w w') : NodM K w' a L := h.grx (T := []) (g.x []) (fun _ h => by cases h)
theorem NdM.ok.gr {K : Nat → Prop} {w w' : World} {x : NdM} (h : x.ok K w) (g : Gr w w') : x.ok K w' := h.grx (T := []) (g.x []) (fun _ h => by cases h)
/-- The cells of a node. -/
theorem NodM.get {K : Nat → Prop} {w : World} {a : Option Addr} {L : List NdM} (h : NodM K w a L) {i : Nat} {x : NdM} (hx : L[i]? = some x) :
    ∃ b off, a = some ⟨b, off, none⟩ ∧ b < w.heap.size ∧ K b ∧ w.cell? ⟨b, off + i * 7, none⟩ = some (.int .i64 x.e.id) ∧ w.cell? ⟨b, off + i * 7 + 1, none⟩ = some (.int .i64 x.e.par) ∧ w.cell? ⟨b, off + i * 7 + 2, none⟩ = some (.int .i64 x.e.srv.k) ∧ w.cell? ⟨b, off + i * 7 + 3, none⟩ = some (.int .i64 x.e.srv.q) ∧ w.cell? ⟨b, off + i * 7 + 4, none⟩ = some (.int .i64 x.e.srv.t) ∧ w.cell? ⟨b, off + i * 7 + 5, none⟩ = some (.int .i64 x.e.pol) ∧ w.cell? ⟨b, off + i * 7 + 6, none⟩ = some (.slice x.a x.e.tasks.length x.c) := by
  obtain ⟨b, off, ha, hb, hc⟩ := h.1.1 i x hx
  exact ⟨b, off, ha, hb, h.1.2 _ ha (fun e => by rw [e] at hx; cases hx), hc 0 _ rfl, hc 1 _ rfl, hc 2 _ rfl, hc 3 _ rfl, hc 4 _ rfl, hc 5 _ rfl, hc 6 _ rfl⟩

/-- A ghost. -/
structure Gh where
  par : Int
  srv : Srv
  till : Int
abbrev Gh.cells (g : Gh) : List Value := [.int .i64 g.par, .int .i64 g.srv.k, .int .i64 g.srv.q, .int .i64 g.srv.t, .int .i64 g.till]
theorem Gh.cells_len (g : Gh) : g.cells.length = 5 := rfl
theorem Gh.cells_one (g : Gh) : ∀ u ∈ g.cells, u.oneCell' = true := by
  intro u hu
  simp at hu
  rcases hu with rfl | rfl | rfl | rfl | rfl <;> rfl
/-- The cells of a ghost. -/
theorem gh_get {K : Nat → Prop} {w : World} {a : Option Addr} {L : List Gh} (h : RecsIn K 5 Gh.cells w a L) {i : Nat} {x : Gh} (hx : L[i]? = some x) :
    ∃ b off, a = some ⟨b, off, none⟩ ∧ b < w.heap.size ∧ K b ∧ w.cell? ⟨b, off + i * 5, none⟩ = some (.int .i64 x.par) ∧ w.cell? ⟨b, off + i * 5 + 1, none⟩ = some (.int .i64 x.srv.k) ∧ w.cell? ⟨b, off + i * 5 + 2, none⟩ = some (.int .i64 x.srv.q) ∧ w.cell? ⟨b, off + i * 5 + 3, none⟩ = some (.int .i64 x.srv.t) ∧ w.cell? ⟨b, off + i * 5 + 4, none⟩ = some (.int .i64 x.till) := by
  obtain ⟨b, off, ha, hb, hc⟩ := h.1 i x hx
  exact ⟨b, off, ha, hb, h.2 _ ha (fun e => by rw [e] at hx; cases hx), hc 0 _ rfl, hc 1 _ rfl, hc 2 _ rfl, hc 3 _ rfl, hc 4 _ rfl⟩
/-- A tree. -/
structure TreeV where
  nodes : List Nd
  ghosts : List Gh
  last : Int
  now : Int
/-- A tree as it lies. -/
structure TM where
  N : List NdM
  an : Option Addr
  cn : Nat
  G : List Gh
  ag : Option Addr
  cg : Nat
  last : Int
  now : Int
abbrev TM.v (T : TM) : TreeV := ⟨T.N.map (·.e), T.G, T.last, T.now⟩
abbrev TM.row (T : TM) : Array Value := #[.slice T.an T.N.length T.cn, .slice T.ag T.G.length T.cg, .int .i64 T.last, .int .i64 T.now]
/-- The tree's nodes, their tasks and its ghosts lie where it says, in blocks of which K holds. -/
structure TreeAt (K : Nat → Prop) (w : World) (T : TM) : Prop where
  n : NodM K w T.an T.N
  nn : T.an = none → T.cn = 0
  g : RecsIn K 5 Gh.cells w T.ag T.G
  gn : T.ag = none → T.cg = 0
  l1 : T.N.length ≤ 1000000
  l2 : T.G.length ≤ 1000000
theorem TreeAt.grx {K : Nat → Prop} {S : List Nat} {w w' : World} {T : TM} (h : TreeAt K w T) (g : GrX S w w') (hT : ∀ y, y ∈ S → ¬ K y) : TreeAt K w' T := ⟨h.n.grx g hT, h.nn, h.g.grx g hT, h.gn, h.l1, h.l2⟩
theorem TreeAt.gr {K : Nat → Prop} {w w' : World} {T : TM} (h : TreeAt K w T) (g : Gr w w') : TreeAt K w' T := h.grx (S := []) (g.x []) (fun _ h => by cases h)
theorem TreeAt.mono {K K' : Nat → Prop} {w : World} {T : TM} (h : TreeAt K w T) (hk : ∀ b, b < w.heap.size → K b → K' b) : TreeAt K' w T := ⟨h.n.mono hk, h.nn, h.g.mono hk, h.gn, h.l1, h.l2⟩
theorem TreeAt.any {K : Nat → Prop} {w : World} {T : TM} (h : TreeAt K w T) : TreeAt Any w T := h.mono (fun _ _ _ => trivial)
theorem TreeAt.none (K : Nat → Prop) (w : World) (l n : Int) : TreeAt K w ⟨[], .none, 0, [], .none, 0, l, n⟩ := ⟨NodM.nil _ _ _, fun _ => rfl, RecsIn.nil _ _ _ _ _, fun _ => rfl, by simp, by simp⟩
end Go.Proofs.YtanfgipanfjcoaaGreatDoor
/- Clones of tasks and of ghosts, whose rows can be written. Printed by gen_t2.py (turned from Q21). -/
namespace Go.Proofs.YtanfgipanfjcoaaGreatDoor
open Go.RowKit

theorem owns_cap {w : World} {base : Nat} {e : TypeId} {size : Nat} {v : Value} {n : Nat} {xs : List Value} {a : Option Addr} {m c : Nat} (h : w.ownsRow base e size v n xs) (hv : v = .slice a m c) : n ≤ c ∧ c ≤ maxLen := by
  obtain ⟨_, ⟨h1, h2⟩ | ⟨g, cap, cur, h1, _, _, h2, h3, _⟩⟩ := h
  · rw [hv] at h1; cases h1; exact ⟨by omega, Nat.zero_le _⟩
  · rw [hv] at h1; cases h1; exact ⟨h2, h3⟩

theorem owns_free {w : World} {base : Nat} {e : TypeId} {size : Nat} {n m c : Nat} {xs : List Value} {a : Option Addr} {ad : Addr} (h : w.ownsRow base e size (.slice a m c) n xs) (ha : a = some ad) (o : Nat) : w.frozen? ⟨ad.block, o, none⟩ = false := by
  obtain ⟨_, hn | ⟨g, cap, cur, hv, _, hh, _⟩⟩ := h
  · rw [ha] at hn; cases hn.1
  · rw [ha] at hv; cases hv; simp [World.frozen?, hh]
/-- A slice that was made anew, and can be written. -/
def NewF {α : Type} (k : Nat) (enc : α → List Value) (e : TypeId) (l : List α) (w : World) (x : Ending) (w' : World) : Prop :=
  ∃ a c, x = .returned (.slice a l.length c) ∧ RecsIn (fun b => w.heap.size ≤ b) k enc w' a l ∧ (a = none → c = 0) ∧ l.length ≤ c ∧ c ≤ maxLen ∧ Gr w w' ∧ (∀ ad, a = some ad → l ≠ [] → ∀ o, w'.frozen? ⟨ad.block, o, none⟩ = false) ∧ w'.ownsRow w.heap.size e k (.slice a l.length c) l.length (l.flatMap enc)
set_option maxRecDepth 100000 in
set_option maxHeartbeats 800000 in
theorem cloneF_any (a : Option Addr) (c : Nat) (l : List Tsk) (w : World) (h : RecsAt 4 Tsk.cells w a l) (hc : a = none → c = 0) (hm : l.length * 32 ≤ 140737488351232) :
    Calls Tryz.prog 51 #[.slice a l.length c] w (NewF 4 Tsk.cells 41 l w) := by
  obtain ⟨i72, hi, hz0, hz1, hz2⟩ := info_parts Tryz.infoTsk
  have hmm : l.length ≤ maxLen := by unfold maxLen; omega
  have n2 : l.length * 32 ≤ 140737488355328 := by omega
  have hnil := fun (w : World) a n c => Lib.run_eql_slice_nil (P := Tryz.prog) w 30 41 a n c 0 0 Tryz.underlying30
  cases a with
  | none =>
    obtain rfl := hc rfl
    obtain rfl : l = [] := by
      cases l with
      | nil => rfl
      | cons y r => obtain ⟨b, off, hh, _⟩ := h 0 y rfl; cases hh
    go_enter Tryz.func51, Tryz.ntmps51
    go_wp2_with fail
    go_ret
    exact ⟨none, 0, rfl, RecsIn.nil _ _ _ _ _, (fun _ => rfl), Nat.le_refl _, Nat.zero_le _, Gr.refl _, (fun _ h => by cases h), World.ownsRow_nil _ _ _ _⟩
  | some ad =>
    go_enter Tryz.func51, Tryz.ntmps51
    go_wp2_with (at_builtin; refine wpList_copyN (k := 4) (enc := Tsk.cells) rfl _ _ 30 rfl 41 i72 _ 32 Tryz.underlying30 hi hz0 hz1 hz2 rfl (by decide) Tsk.cells_len Tsk.cells_one w.heap.size rfl rfl (some ad) c l rfl h hc hmm n2 ?_; intro v1 w1 hown g1)
    obtain ⟨a', c', rfl, hr, hn, hb⟩ := recs_of_owns Tsk.cells_len hown
    have hcap := owns_cap hown rfl
    go_wp2_with fail
    go_ret
    exact ⟨a', c', rfl, ⟨hr, fun x hx _ => hb x hx⟩, hn, hcap.1, hcap.2, g1, fun ad ha _ o => owns_free hown ha o, hown⟩

theorem Tryz.infoGh : (Tryz.prog.info? 43).map (fun i => (i.zero, i.size, i.bytes)) = some (some (.agg #[.int .i64 0, .int .i64 0, .int .i64 0, .int .i64 0, .int .i64 0]), 5, 40) := by kernel_rfl
theorem Tryz.infoNd : (Tryz.prog.info? 39).map (fun i => (i.zero, i.size, i.bytes)) = some (some (.agg #[.int .i64 0, .int .i64 0, .int .i64 0, .int .i64 0, .int .i64 0, .int .i64 0, .slice none 0 0]), 7, 72) := by kernel_rfl
set_option maxRecDepth 100000 in
set_option maxHeartbeats 800000 in
theorem cloneG_any (a : Option Addr) (c : Nat) (l : List Gh) (w : World) (h : RecsAt 5 Gh.cells w a l) (hc : a = none → c = 0) (hm : l.length * 40 ≤ 140737488351232) :
    Calls Tryz.prog 52 #[.slice a l.length c] w (NewF 5 Gh.cells 43 l w) := by
  obtain ⟨i72, hi, hz0, hz1, hz2⟩ := info_parts Tryz.infoGh
  have hmm : l.length ≤ maxLen := by unfold maxLen; omega
  have n2 : l.length * 40 ≤ 140737488355328 := by omega
  have hnil := fun (w : World) a n c => Lib.run_eql_slice_nil (P := Tryz.prog) w 25 43 a n c 0 0 Tryz.underlying25
  cases a with
  | none =>
    obtain rfl := hc rfl
    obtain rfl : l = [] := by
      cases l with
      | nil => rfl
      | cons y r => obtain ⟨b, off, hh, _⟩ := h 0 y rfl; cases hh
    go_enter Tryz.func52, Tryz.ntmps52
    go_wp2_with fail
    go_ret
    exact ⟨none, 0, rfl, RecsIn.nil _ _ _ _ _, (fun _ => rfl), Nat.le_refl _, Nat.zero_le _, Gr.refl _, (fun _ h => by cases h), World.ownsRow_nil _ _ _ _⟩
  | some ad =>
    go_enter Tryz.func52, Tryz.ntmps52
    go_wp2_with (at_builtin; refine wpList_copyN (k := 5) (enc := Gh.cells) rfl _ _ 25 rfl 43 i72 _ 40 Tryz.underlying25 hi hz0 hz1 hz2 rfl (by decide) Gh.cells_len Gh.cells_one w.heap.size rfl rfl (some ad) c l rfl h hc hmm n2 ?_; intro v1 w1 hown g1)
    obtain ⟨a', c', rfl, hr, hn, hb⟩ := recs_of_owns Gh.cells_len hown
    have hcap := owns_cap hown rfl
    go_wp2_with fail
    go_ret
    exact ⟨a', c', rfl, ⟨hr, fun x hx _ => hb x hx⟩, hn, hcap.1, hcap.2, g1, fun ad ha _ o => owns_free hown ha o, hown⟩
end Go.Proofs.YtanfgipanfjcoaaGreatDoor
/- almonerref13: SameNode, SameNodes, Same where they are the same. -/
namespace Go.Proofs.YtanfgipanfjcoaaGreatDoor
open Go.RowKit

theorem tsk_cellsT {w : World} {a : Option Addr} {l : List Tsk} (h : RecsAt 4 Tsk.cells w a l) {i : Nat} {d : Tsk} (hd : l[i]? = some d) : ∃ b off, a = some ⟨b, off, none⟩ ∧ b < w.heap.size ∧ w.cell? ⟨b, off + i * 4, none⟩ = some (.int .i64 d.c) ∧ w.cell? ⟨b, off + i * 4 + 1, none⟩ = some (.int .i64 d.p) ∧ w.cell? ⟨b, off + i * 4 + 2, none⟩ = some (.int .i64 d.d) ∧ w.cell? ⟨b, off + i * 4 + 3, none⟩ = some (.int .i64 d.s) := by
  obtain ⟨b, off, ha, hb, hc⟩ := h i d hd
  exact ⟨b, off, ha, hb, hc 0 _ rfl, hc 1 _ rfl, hc 2 _ rfl, hc 3 _ rfl⟩
set_option maxRecDepth 100000 in
set_option maxHeartbeats 3200000 in
theorem sameNode_eq (e : Nd) (a1 a2 : Option Addr) (c1 c2 : Nat) (w : World) (h1 : (⟨e, a1, c1⟩ : NdM).ok Any w) (h2 : (⟨e, a2, c2⟩ : NdM).ok Any w) :
    Calls Tryz.prog 64 #[.agg #[.int .i64 e.id, .int .i64 e.par, .int .i64 e.srv.k, .int .i64 e.srv.q, .int .i64 e.srv.t, .int .i64 e.pol, .slice a1 e.tasks.length c1], .agg #[.int .i64 e.id, .int .i64 e.par, .int .i64 e.srv.k, .int .i64 e.srv.q, .int .i64 e.srv.t, .int .i64 e.pol, .slice a2 e.tasks.length c2]] w fun x w' => x = .returned (.bool true) ∧ Gr w w' := by
  have hcap := h1.2.2.2.2
  dsimp only at hcap
  go_enter Tryz.func64, Tryz.ntmps64
  go_wp2_with fail
  have gW := ((Gr.refl w).alloc (.cells #[.int .i64 e.id, .int .i64 e.par, .int .i64 e.srv.k, .int .i64 e.srv.q, .int .i64 e.srv.t, .int .i64 e.pol, .slice a1 e.tasks.length c1] 39)).alloc (.cells #[.int .i64 e.id, .int .i64 e.par, .int .i64 e.srv.k, .int .i64 e.srv.q, .int .i64 e.srv.t, .int .i64 e.pol, .slice a2 e.tasks.length c2] 39)
  go_loopw [44] (fun iv wr => ∃ k : Nat, k ≤ e.tasks.length ∧ iv = .int .i64 k ∧ Gr ((w.alloc (.cells #[.int .i64 e.id, .int .i64 e.par, .int .i64 e.srv.k, .int .i64 e.srv.q, .int .i64 e.srv.t, .int .i64 e.pol, .slice a1 e.tasks.length c1] 39)).alloc (.cells #[.int .i64 e.id, .int .i64 e.par, .int .i64 e.srv.k, .int .i64 e.srv.q, .int .i64 e.srv.t, .int .i64 e.pol, .slice a2 e.tasks.length c2] 39)) wr) (fun iv _ => e.tasks.length - (intOf iv).toNat)
  case atStart => exact ⟨0, Nat.zero_le _, rfl, Gr.refl _⟩
  case round =>
    obtain ⟨k, hk, rfl, hg⟩ := hrel
    obtain ⟨cg, fg, sg⟩ := hg.cells
    simp only [World.size_alloc] at cg fg sg
    have k1 := fun o => cg w.heap.size o (by omega)
    have k2 := fun o => cg (w.heap.size + 1) o (by omega)
    clear cg fg
    by_cases hlt : k < e.tasks.length
    · obtain ⟨d, hd⟩ := get_some e.tasks k hlt
      obtain ⟨b, off, hb0, hb, d0, d1, d2, d3⟩ := tsk_cellsT ((h1.gr gW).gr hg).1.1 hd
      obtain ⟨b', off', hb0', hb', d0', d1', d2', d3'⟩ := tsk_cellsT ((h2.gr gW).gr hg).1.1 hd
      dsimp only at hb0 hb0'
      subst hb0 hb0'
      replace hd := Lib.hid hd
      go_wp2_with fail
      go_quiet (fail)
      go_wp2_with fail
      go_roundw
      case rel => exact ⟨k + 1, by omega, by go_num, hg.drewN _⟩
      case measure => simp [intOf]; omega
    · go_wp2_with fail
      go_ret
      exact ⟨rfl, gW.trans hg⟩
set_option maxRecDepth 100000 in
set_option maxHeartbeats 3200000 in
theorem sameNodes_eq (a1 a2 : Option Addr) (c1 c2 : Nat) (L1 L2 : List NdM) (w : World) (h1 : NodM Any w a1 L1) (h2 : NodM Any w a2 L2) (he : L1.map (·.e) = L2.map (·.e)) (hm : L1.length ≤ maxLen) :
    Calls Tryz.prog 31 #[.slice a1 L1.length c1, .slice a2 L2.length c2] w fun x w' => x = .returned (.bool true) ∧ Gr w w' := by
  have hlen : L2.length = L1.length := by simpa using (congrArg List.length he).symm
  have hsm := fun e a1 a2 c1 c2 (w' : World) h1 h2 => sameNode_eq e a1 a2 c1 c2 w' h1 h2
  replace hsm := Lib.hid hsm
  rw [hlen]
  replace hlen := Lib.hid hlen
  replace he := Lib.hid he
  unfold maxLen at hm
  go_enter Tryz.func31, Tryz.ntmps31
  go_wp2_with fail
  go_loopw [13] (fun iv wr => ∃ k : Nat, k ≤ L1.length ∧ iv = .int .i64 k ∧ Gr w wr) (fun iv _ => L1.length - (intOf iv).toNat)
  case atStart => exact ⟨0, Nat.zero_le _, rfl, Gr.refl _⟩
  case round =>
    obtain ⟨k, hk, rfl, hg⟩ := hrel
    by_cases hlt : k < L1.length
    · obtain ⟨x, hx⟩ := get_some L1 k hlt
      obtain ⟨y, hy⟩ := get_some L2 k (by rw [hlen.out]; exact hlt)
      have hxy : y.e = x.e := by
        have e1 : (L1.map (·.e))[k]? = some x.e := by simp [hx]
        have e2 : (L2.map (·.e))[k]? = some y.e := by simp [hy]
        rw [he.out, e2] at e1
        exact Option.some.inj e1
      obtain ⟨y, a4, c4⟩ := y
      dsimp only at hxy
      subst hxy
      obtain ⟨b, off, rfl, hb, _, d0, d1, d2, d3, d4, d5, d6⟩ := (h1.gr hg).get hx
      obtain ⟨b', off', rfl, hb', _, e0, e1, e2, e3, e4, e5, e6⟩ := (h2.gr hg).get hy
      have o1 := (h1.gr hg).2 x (get_mem hx)
      have o2 := (h2.gr hg).2 _ (get_mem hy)
      dsimp only at e0 e1 e2 e3 e4 e5 e6
      have q0 := GrW.cell d0
      have q1 := GrW.cell d1
      have q2 := GrW.cell d2
      have q3 := GrW.cell d3
      have q4 := GrW.cell d4
      have q5 := GrW.cell d5
      have q6 := GrW.cell d6
      have p0 := GrW.cell e0
      have p1 := GrW.cell e1
      have p2 := GrW.cell e2
      have p3 := GrW.cell e3
      have p4 := GrW.cell e4
      have p5 := GrW.cell e5
      have p6 := GrW.cell e6
      replace hx := Lib.hid hx
      replace hy := Lib.hid hy
      go_wp2_with fail
      refine wp_region_grows (by kernel_rfl) (by kernel_rfl) ?_
      repeat (any_goals (first | go_big_quiet_step (first | (exact Calls.grows (hsm.out x.e x.a a4 x.c c4 _ (o1.gr (by exact GrW.gr _)) (o2.gr (by exact GrW.gr _))))) | quiet_step (first | (exact Calls.grows (hsm.out x.e x.a a4 x.c c4 _ (o1.gr (by exact GrW.gr _)) (o2.gr (by exact GrW.gr _)))))))
      refine wpQuiet_nil ?_
      intro wp hwq
      have gp := GrW.of hwq
      clear hwq
      obtain ⟨cp, fp, sp⟩ := gp.cells
      try simp only [size_drewN] at cp fp sp
      try simp only [World.size_alloc] at cp fp sp
      try simp only [World.size_drew] at cp fp sp
      try simp only [World.size_setCell] at cp fp sp
      clear q0 q1 q2 q3 q4 q5 q6 p0 p1 p2 p3 p4 p5 p6
      go_wp2_with fail
      go_roundw
      case rel => exact ⟨k + 1, by omega, by go_num, hg.trans gp⟩
      case measure => simp [intOf]; omega
    · go_wp2_with fail
      go_ret
      exact ⟨rfl, hg⟩
set_option maxRecDepth 100000 in
set_option maxHeartbeats 3200000 in
theorem same_eqT (T U : TM) (w : World) (h1 : TreeAt Any w T) (h2 : TreeAt Any w U) (he : T.v = U.v) :
    Calls Tryz.prog 8 #[.agg T.row, .agg U.row] w fun x w' => x = .returned (.bool true) ∧ Gr w w' := by
  obtain ⟨N, an, cn, G, ag, cg, la, no⟩ := T
  obtain ⟨N2, an2, cn2, G2, ag2, cg2, la2, no2⟩ := U
  injection he with he1 he2 he3 he4
  dsimp only at he1 he2 he3 he4
  subst he2 he3 he4
  have hm : N.length ≤ maxLen := Nat.le_trans h1.l1 (by unfold maxLen; omega)
  have hgm := h1.l2
  dsimp only at hgm
  have gW := ((Gr.refl w).alloc (.cells (TM.mk N an cn G ag cg la no).row 27)).alloc (.cells (TM.mk N2 an2 cn2 G ag2 cg2 la no).row 27)
  have hsn := sameNodes_eq an an2 cn cn2 N N2 _ ((h1.gr gW).n) ((h2.gr gW).n) he1 hm
  replace hsn := Lib.hid hsn
  replace he1 := Lib.hid he1
  go_enter Tryz.func8, Tryz.ntmps8
  go_wp2_with fail
  refine hsn.out.mono ?_
  rintro e w1 ⟨rfl, g1⟩
  have gq := gW.trans g1
  obtain ⟨cg, fg, sg⟩ := g1.cells
  simp only [World.size_alloc] at cg fg sg
  have k1 := fun o => cg w.heap.size o (by omega)
  have k2 := fun o => cg (w.heap.size + 1) o (by omega)
  clear cg fg
  go_wp2_with fail
  clear k1 k2
  go_loopw [38] (fun iv wr => ∃ k : Nat, k ≤ G.length ∧ iv = .int .i64 k ∧ Gr w1 wr) (fun iv _ => G.length - (intOf iv).toNat)
  case atStart => exact ⟨0, Nat.zero_le _, rfl, Gr.refl _⟩
  case round =>
    obtain ⟨k, hk, rfl, hg⟩ := hrel
    obtain ⟨cg, fg, sg2⟩ := (g1.trans hg).cells
    simp only [World.size_alloc] at cg fg sg2
    have k1 := fun o => cg w.heap.size o (by omega)
    have k2 := fun o => cg (w.heap.size + 1) o (by omega)
    clear cg fg
    by_cases hlt : k < G.length
    · obtain ⟨x, hx⟩ := get_some G k hlt
      obtain ⟨b, off, hb0, hb, _, d0, d1, d2, d3, d4⟩ := gh_get ((h1.gr gq).gr hg).g hx
      obtain ⟨b', off', hb0', hb', _, e0, e1, e2, e3, e4⟩ := gh_get ((h2.gr gq).gr hg).g hx
      dsimp only at hb0 hb0'
      subst hb0 hb0'
      replace hx := Lib.hid hx
      go_wp2_with fail
      go_quiet (fail)
      go_wp2_with fail
      go_roundw
      case rel => exact ⟨k + 1, by omega, by go_num, hg.drewN _⟩
      case measure => simp [intOf]; omega
    · go_wp2_with fail
      go_ret
      exact ⟨rfl, gq.trans hg⟩
end Go.Proofs.YtanfgipanfjcoaaGreatDoor
