/- alive of law 13. Printed by gen_u3.py. -/
import Derived.Test.YtanfgipanfjcoaaGreatDoorJ35
import Derived.Test.YtanfgipanfjcoaaGreatDoorJ34
import Derived.Test.YtanfgipanfjcoaaGreatDoorJ2
namespace Go.Proofs.YtanfgipanfjcoaaGreatDoor
open Go.RowKit

theorem recs_nil0 {w : World} : RecsAt 4 Tsk.cells w none [] := fun i s h => by simp at h
set_option maxRecDepth 100000 in
set_option maxHeartbeats 3200000 in
theorem alive13_any {G : List Nat} {E : Nat → Addr} (w : World) (hE : EAt G E w) (i0 : 3 ∈ G) (i1 : 0 ∈ G) (i3 : 1 ∈ G) (i4 : 2 ∈ G) :
    Calls Tryz.prog 5 #[] w fun e w' => e = .returned (.bool true) ∧ Gr w w' := by
  have hs1 : Sane 1 ⟨[⟨1, 0, ⟨1, 2, 10⟩, 0, []⟩], [], 1, 0⟩ := by
    have := Sane.zero.step ⟨1, 0, ⟨1, 2, 10⟩, 0, [], 0⟩
    rw [ali1] at this
    exact this
  have h1 : ∀ W, Gr w W → Calls Tryz.prog 6 #[.agg #[.slice none 0 0, .slice none 0 0, .int .i64 0, .int .i64 0], .agg #[.int .i64 1, .int .i64 0, .int .i64 1, .int .i64 2, .int .i64 10, .int .i64 0, .slice none 0 0, .int .i64 0]] W (NewR (⟨[⟨1, 0, ⟨1, 2, 10⟩, 0, []⟩], [], 1, 0⟩, 0, 1) W) := fun W g => by
    have := apply_any ⟨[], none, 0, [], none, 0, 0, 0⟩ W (hE.gr g) i0 i1 i3 i4 (TreeAt.none _ _ _ _) (n := 0) Sane.zero (by omega) ⟨1, 0, ⟨1, 2, 10⟩, 0, [], 0⟩ none 0 (by decide) recs_nil0 (fun _ => rfl) (by decide)
    rw [show (TM.mk [] none 0 [] none 0 0 0).v.apply ⟨1, 0, ⟨1, 2, 10⟩, 0, [], 0⟩ = _ from ali1] at this
    exact this
  have h2 : ∀ (W : World) (T : TM), Gr w W → T.v = ⟨[⟨1, 0, ⟨1, 2, 10⟩, 0, []⟩], [], 1, 0⟩ → TreeAt Any W T → Calls Tryz.prog 6 #[.agg #[.slice T.an T.N.length T.cn, .slice T.ag T.G.length T.cg, .int .i64 T.last, .int .i64 T.now], .agg #[.int .i64 1, .int .i64 1, .int .i64 1, .int .i64 1, .int .i64 10, .int .i64 0, .slice none 0 0, .int .i64 0]] W (fun e w' => ∃ T' : TM, e = .returned (.tuple #[.agg T'.row, .agg #[.int .i64 4, .int .i64 0]]) ∧ Gr W w') := fun W T g hv hT => by
    have := apply_any T W (hE.gr g) i0 i1 i3 i4 hT (n := 1) (by rw [hv]; exact hs1) (by omega) ⟨1, 1, ⟨1, 1, 10⟩, 0, [], 0⟩ none 0 (by decide) recs_nil0 (fun _ => rfl) (by decide)
    rw [hv] at this
    refine this.mono (fun e w' ⟨T', he, _, _, g'⟩ => ⟨T', ?_, g'⟩)
    rw [ali2] at he
    exact he
  have h3 : ∀ (W : World) (T : TM), Gr w W → T.v = ⟨[⟨1, 0, ⟨1, 2, 10⟩, 0, []⟩], [], 1, 0⟩ → TreeAt Any W T → Calls Tryz.prog 6 #[.agg #[.slice T.an T.N.length T.cn, .slice T.ag T.G.length T.cg, .int .i64 T.last, .int .i64 T.now], .agg #[.int .i64 3, .int .i64 1, .int .i64 0, .int .i64 0, .int .i64 0, .int .i64 0, .slice none 0 0, .int .i64 5]] W (NewR (⟨[], [⟨0, ⟨1, 2, 10⟩, 7⟩], 1, 5⟩, 0, 1) W) := fun W T g hv hT => by
    have := apply_any T W (hE.gr g) i0 i1 i3 i4 hT (n := 1) (by rw [hv]; exact hs1) (by omega) ⟨3, 1, ⟨0, 0, 0⟩, 0, [], 5⟩ none 0 (by decide) recs_nil0 (fun _ => rfl) (by decide)
    rw [hv, ali3] at this
    exact this
  replace h1 := Lib.hid h1
  replace h2 := Lib.hid h2
  replace h3 := Lib.hid h3
  go_enter Tryz.func5, Tryz.ntmps5
  go_wp2_with fail
  refine (h1.out _ (Gr.refl _)).mono ?_
  rintro e w1 ⟨T1, rfl, hv1, hT1, g1⟩
  obtain ⟨p1, hp1⟩ : ∃ p1, p1 = w1.heap.size := ⟨_, rfl⟩
  obtain ⟨w2, hw2⟩ : ∃ w2, w2 = (w1.alloc (.cells T1.row 27)).alloc (.cells #[.int .i64 0, .int .i64 1] 34) := ⟨_, rfl⟩
  have gw2 : Gr w1 w2 := by rw [hw2]; exact ((Gr.refl _).alloc _).alloc _
  have hXw2 : Blk w2 p1 T1.row 27 := by rw [hw2, hp1]; exact (Blk.new _ _ _).alloc _
  have hYw2 : Blk w2 (p1 + 1) #[.int .i64 0, .int .i64 1] 34 := by
    rw [hw2, hp1]
    have := Blk.new (w1.alloc (.cells T1.row 27)) #[.int .i64 0, .int .i64 1] 34
    rw [World.size_alloc] at this
    exact this
  have gWw2 : Gr w w2 := (g1).trans gw2
  replace hw2 := Lib.hid hw2
  replace hp1 := Lib.hid hp1
  go_upto_region 2 with fail
  rw [← hp1.out, ← hw2.out]
  have x0 := hXw2.cell (i := 0) (v := .slice T1.an T1.N.length T1.cn) rfl
  have x1 := hXw2.cell (i := 1) (v := .slice T1.ag T1.G.length T1.cg) rfl
  have x2 := hXw2.cell (i := 2) (v := .int .i64 T1.last) rfl
  have x3 := hXw2.cell (i := 3) (v := .int .i64 T1.now) rfl
  have hTa := (hT1.gr gw2).any
  replace hXw2 := Lib.hid hXw2
  replace hYw2 := Lib.hid hYw2
  have hc := h2.out w2 T1 gWw2 hv1 hTa
  replace hc := Lib.hid hc
  replace hTa := Lib.hid hTa
  replace hv1 := Lib.hid hv1
  go_wp2_with fail
  refine hc.out.mono ?_
  rintro e w3 ⟨T2, rfl, g3⟩
  clear hc x0 x1 x2 x3
  obtain ⟨p2, hp2⟩ : ∃ p2, p2 = w3.heap.size := ⟨_, rfl⟩
  obtain ⟨w4, hw4⟩ : ∃ w4, w4 = (w3.alloc (.cells T2.row 27)).alloc (.cells #[.int .i64 4, .int .i64 0] 34) := ⟨_, rfl⟩
  have gw4 : Gr w3 w4 := by rw [hw4]; exact ((Gr.refl _).alloc _).alloc _
  have hXw4 : Blk w4 p2 T2.row 27 := by rw [hw4, hp2]; exact (Blk.new _ _ _).alloc _
  have hYw4 : Blk w4 (p2 + 1) #[.int .i64 4, .int .i64 0] 34 := by
    rw [hw4, hp2]
    have := Blk.new (w3.alloc (.cells T2.row 27)) #[.int .i64 4, .int .i64 0] 34
    rw [World.size_alloc] at this
    exact this
  have gWw4 : Gr w w4 := (gWw2.trans g3).trans gw4
  replace hw4 := Lib.hid hw4
  replace hp2 := Lib.hid hp2
  go_upto_region 3 with fail
  rw [← hp2.out, ← hw4.out]
  have gq4 := g3.trans gw4
  have hX4 := hXw2.out.gr gq4
  have hY4 := hYw2.out.gr gq4
  have hTb := (hTa.out.gr gq4)
  have x0 := hX4.cell (i := 0) (v := .slice T1.an T1.N.length T1.cn) rfl
  have x1 := hX4.cell (i := 1) (v := .slice T1.ag T1.G.length T1.cg) rfl
  have x2 := hX4.cell (i := 2) (v := .int .i64 T1.last) rfl
  have x3 := hX4.cell (i := 3) (v := .int .i64 T1.now) rfl
  have hc := h3.out w4 T1 gWw4 hv1.out hTb
  replace hc := Lib.hid hc
  replace hTb := Lib.hid hTb
  replace hX4 := Lib.hid hX4
  replace hY4 := Lib.hid hY4
  replace hXw4 := Lib.hid hXw4
  replace hYw4 := Lib.hid hYw4
  go_wp2_with fail
  refine hc.out.mono ?_
  rintro e w5 ⟨T3, rfl, hv3, hT3, g5⟩
  clear hc x0 x1 x2 x3
  obtain ⟨p3, hp3⟩ : ∃ p3, p3 = w5.heap.size := ⟨_, rfl⟩
  obtain ⟨w6, hw6⟩ : ∃ w6, w6 = (w5.alloc (.cells T3.row 27)).alloc (.cells #[.int .i64 0, .int .i64 1] 34) := ⟨_, rfl⟩
  have gw6 : Gr w5 w6 := by rw [hw6]; exact ((Gr.refl _).alloc _).alloc _
  have hXw6 : Blk w6 p3 T3.row 27 := by rw [hw6, hp3]; exact (Blk.new _ _ _).alloc _
  have hYw6 : Blk w6 (p3 + 1) #[.int .i64 0, .int .i64 1] 34 := by
    rw [hw6, hp3]
    have := Blk.new (w5.alloc (.cells T3.row 27)) #[.int .i64 0, .int .i64 1] 34
    rw [World.size_alloc] at this
    exact this
  have gWw6 : Gr w w6 := (gWw4.trans g5).trans gw6
  replace hw6 := Lib.hid hw6
  replace hp3 := Lib.hid hp3
  go_upto_region 4 with fail
  rw [← hp3.out, ← hw6.out]
  have gq6 := g5.trans gw6
  have hY6 := hY4.out.gr gq6
  have hZ6 := hYw4.out.gr gq6
  obtain ⟨N3, an3, cn3, G3, ag3, cg3, la3, no3⟩ := T3
  injection hv3 with v1 v2 v3 v4
  dsimp only at v1 v2 v3 v4
  subst v2 v3 v4
  obtain ⟨gb, off, rfl, hgb, _, d0, d1, d2, d3, d4⟩ := gh_get (hT3.gr gw6).any.g (i := 0) (x := ⟨0, ⟨1, 2, 10⟩, 7⟩) rfl
  simp only [Nat.zero_mul, Nat.add_zero] at d0 d1 d2 d3 d4
  have x0 := hXw6.cell (i := 0) (v := .slice an3 N3.length cn3) rfl
  have x1 := hXw6.cell (i := 1) (v := .slice (some ⟨gb, off, none⟩) 1 cg3) rfl
  have x2 := hXw6.cell (i := 2) (v := .int .i64 1) rfl
  have x3 := hXw6.cell (i := 3) (v := .int .i64 5) rfl
  have y0 := hYw6.cell (i := 0) (v := .int .i64 0) rfl
  have y1 := hYw6.cell (i := 1) (v := .int .i64 1) rfl
  have z0 := hY6.cell (i := 0) (v := .int .i64 0) rfl
  have z1 := hY6.cell (i := 1) (v := .int .i64 1) rfl
  have u0 := hZ6.cell (i := 0) (v := .int .i64 4) rfl
  have u1 := hZ6.cell (i := 1) (v := .int .i64 0) rfl
  go_wp2_with fail
  go_ret
  exact ⟨rfl, gWw6⟩
end Go.Proofs.YtanfgipanfjcoaaGreatDoor
/- TreeRefused: the walk. Printed by gen_w1.py. -/
namespace Go.Proofs.YtanfgipanfjcoaaGreatDoor
open Go.RowKit

/-- The cells of an order in a list. -/
theorem or_get {K : Nat → Prop} {w : World} {a : Option Addr} {L : List OrM} (h : RecsIn K 8 OrM.cells w a L) {i : Nat} {x : OrM} (hx : L[i]? = some x) :
    ∃ b off, a = some ⟨b, off, none⟩ ∧ b < w.heap.size ∧ w.cell? ⟨b, off + i * 8, none⟩ = some (.int .i64 x.e.kd) ∧ w.cell? ⟨b, off + i * 8 + 1, none⟩ = some (.int .i64 x.e.id) ∧ w.cell? ⟨b, off + i * 8 + 2, none⟩ = some (.int .i64 x.e.srv.k) ∧ w.cell? ⟨b, off + i * 8 + 3, none⟩ = some (.int .i64 x.e.srv.q) ∧ w.cell? ⟨b, off + i * 8 + 4, none⟩ = some (.int .i64 x.e.srv.t) ∧ w.cell? ⟨b, off + i * 8 + 5, none⟩ = some (.int .i64 x.e.pol) ∧ w.cell? ⟨b, off + i * 8 + 6, none⟩ = some (.slice x.a x.e.tasks.length x.c) ∧ w.cell? ⟨b, off + i * 8 + 7, none⟩ = some (.int .i64 x.e.at_) := by
  obtain ⟨b, off, ha, hb, hc⟩ := h.1 i x hx
  exact ⟨b, off, ha, hb, hc 0 _ rfl, hc 1 _ rfl, hc 2 _ rfl, hc 3 _ rfl, hc 4 _ rfl, hc 5 _ rfl, hc 6 _ rfl, hc 7 _ rfl⟩
/-- A tree's variable. -/
structure Held (w : World) (tb : Nat) (T : TM) : Prop where
  b : Blk w tb T.row 27
  t : TreeAt (fun k => k ≠ tb) w T
theorem Held.gr {w w' : World} {tb : Nat} {T : TM} (h : Held w tb T) (g : Gr w w') : Held w' tb T := ⟨h.b.gr g, h.t.gr g⟩
/-- It is written: a tree that was made anew. -/
theorem held_set {w w1 wf : World} {tb B : Nat} {cs : Array Value} {T : TM} (hB : tb < B) (hb : Blk w tb cs 27) (hc : cs.size = 4) (hT : TreeAt (fun k => B ≤ k) w T) (hw : wf = (((w.setCell ⟨tb, 0, none⟩ (.slice T.an T.N.length T.cn)).setCell ⟨tb, 1, none⟩ (.slice T.ag T.G.length T.cg)).setCell ⟨tb, 2, none⟩ (.int .i64 T.last)).setCell ⟨tb, 3, none⟩ (.int .i64 T.now)) (g : Gr w1 w) (h1 : w1.heap.size ≤ tb) : Held wf tb T ∧ Gr w1 wf := by
  have gx : GrX [tb] w wf := by
    rw [hw]
    exact ((((GrX.refl _ _).set (.inl (by simp)) _).set (.inl (by simp)) _).set (.inl (by simp)) _).set (.inl (by simp)) _
  refine ⟨⟨?_, (hT.grx gx (fun y hy hk => by simp at hy; omega)).mono (fun b _ hk => by omega)⟩, gx.all g (fun y hy => by simp at hy; omega)⟩
  have h2 := (((hb.set 0 (.slice T.an T.N.length T.cn)).set 1 (.slice T.ag T.G.length T.cg)).set 2 (.int .i64 T.last)).set 3 (.int .i64 T.now)
  rw [hw]
  obtain ⟨l⟩ := cs
  match l, hc with
  | [_, _, _, _], _ => exact h2
/-- What an order's list must keep. -/
structure OrsAt (w : World) (a : Option Addr) (L : List OrM) : Prop where
  r : RecsIn Any 8 OrM.cells w a L
  i : ∀ x ∈ L, OrI x.e
  k : ∀ x ∈ L, x.ok w
/-- Apply, of an order that lies in memory. -/
theorem apply_at {G : List Nat} {E : Nat → Addr} (T : TM) (W w : World) (tb : Nat) (hE : EAt G E w) (i0 : 3 ∈ G) (i1 : 0 ∈ G) (i3 : 1 ∈ G) (i4 : 2 ∈ G) (hT : Held w tb T) {n : Nat} (hS : Sane n T.v) (hn : n < 1000000) (x : OrM) (hi : OrI x.e) (hk : x.ok W) (g : Gr W w) :
    Calls Tryz.prog 6 #[.agg #[.slice T.an T.N.length T.cn, .slice T.ag T.G.length T.cg, .int .i64 T.last, .int .i64 T.now], .agg #[.int .i64 x.e.kd, .int .i64 x.e.id, .int .i64 x.e.srv.k, .int .i64 x.e.srv.q, .int .i64 x.e.srv.t, .int .i64 x.e.pol, .slice x.a x.e.tasks.length x.c, .int .i64 x.e.at_]] w (NewR (T.v.apply x.e) w) :=
  apply_any T w hE i0 i1 i3 i4 hT.t.any hS hn x.e x.a x.c hi.1 (RecsIn.grx (K := Any) hk.1 (g.x []) (fun _ h => by cases h)).1 hk.2.1 hk.2.2.2.2
theorem OrM.ok.gr {w w' : World} {x : OrM} (h : x.ok w) (g : Gr w w') : x.ok w' := ⟨h.1.grx (T := []) (g.x []) (fun _ h => by cases h), h.2⟩
theorem gh_eql (a b : Gh) (w : World) : (binOp .eql 43 (.agg #[.int .i64 a.par, .int .i64 a.srv.k, .int .i64 a.srv.q, .int .i64 a.srv.t, .int .i64 a.till]) (.agg #[.int .i64 b.par, .int .i64 b.srv.k, .int .i64 b.srv.q, .int .i64 b.srv.t, .int .i64 b.till])).run Tryz.prog w = .ok (.bool (decide (a.par = b.par ∧ a.srv.k = b.srv.k ∧ a.srv.q = b.srv.q ∧ a.srv.t = b.srv.t ∧ a.till = b.till))) w := by
  by_cases h1 : a.par = b.par
  · by_cases h2 : a.srv.k = b.srv.k
    · by_cases h3 : a.srv.q = b.srv.q
      · by_cases h4 : a.srv.t = b.srv.t
        · by_cases h5 : a.till = b.till
          · simp [go_sem, h1, h2, h3, h4, h5]
          · simp [go_sem, h1, h2, h3, h4, h5]
        · simp [go_sem, h1, h2, h3, h4]
      · simp [go_sem, h1, h2, h3]
    · simp [go_sem, h1, h2]
  · simp [go_sem, h1]
end Go.Proofs.YtanfgipanfjcoaaGreatDoor
