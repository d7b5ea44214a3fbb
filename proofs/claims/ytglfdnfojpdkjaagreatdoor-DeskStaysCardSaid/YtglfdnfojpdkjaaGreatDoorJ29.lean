/- tree.create. Printed by gen_t18.py. -/
import Derived.Test.YtglfdnfojpdkjaaGreatDoorJ28
namespace Go.Proofs.YtglfdnfojpdkjaaGreatDoor
open Go.RowKit

/-- What an order gives. -/
def OrdP (B : Nat) (W0 : World) (tb : Nat) (r : TreeV × Int × Int) (e : Ending) (w' : World) : Prop := e = .returned (.agg #[.int .i64 r.2.1, .int .i64 r.2.2]) ∧ ∃ T' : TM, OutAt B w' tb T' ∧ T'.v = r.1 ∧ Gr W0 w'
theorem OutAt.grx {B : Nat} {S : List Nat} {w w' : World} {tb : Nat} {T : TM} (h : OutAt B w tb T) (g : GrX S w w') (h1 : tb ∉ S) (h2 : ∀ k, (Value.slice T.an T.N.length T.cn).ownBlock = some k → k ∉ S) (h3 : ∀ y, (Value.slice T.ag T.G.length T.cg).ownBlock = some y → y ∉ S) (h4 : ∀ x ∈ T.N, ∀ ad, x.a = some ad → x.e.tasks ≠ [] → ad.block ∉ S) : OutAt B w' tb T :=
  ⟨h.o.grx g h1, h.t.ghosts g h2 h4 _ _ (owns_gx h.t.g g h3) h.t.dg h.t.l2, h.hB, h.b⟩
/-- The blocks of a tree of one's own. -/
def treeB (tb : Nat) (T : TM) (y : Nat) : Prop := y = tb ∨ (Value.slice T.an T.N.length T.cn).ownBlock = some y ∨ (Value.slice T.ag T.G.length T.cg).ownBlock = some y ∨ ∃ x ∈ T.N, ∃ ad, x.a = some ad ∧ x.e.tasks ≠ [] ∧ ad.block = y
theorem treeB_lt {B : Nat} {w : World} {tb : Nat} {T : TM} (h : OutAt B w tb T) {y : Nat} (hy : treeB tb T y) : y < w.heap.size := by
  rcases hy with rfl | hy | hy | ⟨x, hx, ad, ha, ht, rfl⟩
  · exact h.o.lt
  · exact (owns_lt h.t.n y hy).1
  · exact (owns_lt h.t.g y hy).1
  · exact (h.t.k x hx).1.1.lt ha ht
theorem OutAt.away {B : Nat} {S : List Nat} {w w' : World} {tb : Nat} {T : TM} (h : OutAt B w tb T) (g : GrX S w w') (hS : ∀ y, y ∈ S → ¬ treeB tb T y) : OutAt B w' tb T :=
  h.grx g (fun hm => hS _ hm (.inl rfl)) (fun _ hk hm => hS _ hm (.inr (.inl hk))) (fun _ hk hm => hS _ hm (.inr (.inr (.inl hk)))) (fun x hx ad ha ht hm => hS _ hm (.inr (.inr (.inr ⟨x, hx, ad, ha, ht, rfl⟩))))
set_option maxRecDepth 100000 in
set_option maxHeartbeats 6400000 in
theorem create_no {G : List Nat} {E : Nat → Addr} (W0 : World) (hE : EAt G E W0) (i0 : 4 ∈ G) (T : TM) (w : World) (tb B : Nat) (h : OutAt B w tb T) (g0 : Gr W0 w) (o : OrdV) (oa : Option Addr) (oc : Nat) (hleg : o.srv.leg = false) :
    Calls Tryz.prog 97 #[.pointer (some ⟨tb, 0, none⟩), .agg #[.int .i64 o.kd, .int .i64 o.id, .int .i64 o.srv.k, .int .i64 o.srv.q, .int .i64 o.srv.t, .int .i64 o.pol, .slice oa o.tasks.length oc, .int .i64 o.at_]] w (OrdP B W0 tb (T.v.create o)) := by
  have hV : T.v.create o = (T.v, 7, 0) := by unfold TreeV.create; rw [if_pos hleg]
  rw [hV]
  obtain ⟨W, hW⟩ : ∃ W, W = (w.alloc (.cells #[.int .i64 o.kd, .int .i64 o.id, .int .i64 o.srv.k, .int .i64 o.srv.q, .int .i64 o.srv.t, .int .i64 o.pol, .slice oa o.tasks.length oc, .int .i64 o.at_] 27)).alloc (.cells #[.int .i64 0, .int .i64 0] 43) := ⟨_, rfl⟩
  have gA : Gr w W := by rw [hW]; exact ((Gr.refl w).alloc _).alloc _
  have hOW : Blk W w.heap.size #[.int .i64 o.kd, .int .i64 o.id, .int .i64 o.srv.k, .int .i64 o.srv.q, .int .i64 o.srv.t, .int .i64 o.pol, .slice oa o.tasks.length oc, .int .i64 o.at_] 27 := by rw [hW]; exact (Blk.new w _ _).alloc _
  have hRW : Blk W (w.heap.size + 1) #[.int .i64 0, .int .i64 0] 43 := by
    rw [hW]
    have := Blk.new (w.alloc (.cells #[.int .i64 o.kd, .int .i64 o.id, .int .i64 o.srv.k, .int .i64 o.srv.q, .int .i64 o.srv.t, .int .i64 o.pol, .slice oa o.tasks.length oc, .int .i64 o.at_] 27)) #[.int .i64 0, .int .i64 0] 43
    rw [World.size_alloc] at this
    exact this
  have hTW := h.gr gA
  have gW := g0.trans gA
  have hlt : ∀ y, treeB tb T y → y < w.heap.size := fun y hy => treeB_lt h hy
  have hck := checkServer_no o.srv.k o.srv.q o.srv.t W (hE.gr gW) i0 hleg
  have o2 := hOW.cell (i := 2) (v := .int .i64 o.srv.k) rfl
  have o3 := hOW.cell (i := 3) (v := .int .i64 o.srv.q) rfl
  have o4 := hOW.cell (i := 4) (v := .int .i64 o.srv.t) rfl
  replace hW := Lib.hid hW
  replace hOW := Lib.hid hOW
  replace hRW := Lib.hid hRW
  replace hTW := Lib.hid hTW
  replace hck := Lib.hid hck
  replace hlt := Lib.hid hlt
  replace h := Lib.hid h
  replace hV := Lib.hid hV
  go_enter Tryz.func97, Tryz.ntmps97
  go_upto_region 1 with fail
  rw [← hW.out]
  go_wp2_with fail
  refine hck.out.mono ?_
  rintro e w1 ⟨rfl, g1⟩
  clear o2 o3 o4
  go_wp2_with fail
  refine (refused_any 7 _).mono ?_
  rintro e w2 ⟨rfl, g2⟩
  have hR2 := (hRW.out.gr g1).gr g2
  have hT2 := (hTW.out.gr g1).gr g2
  have gW2 := (gW.trans g1).trans g2
  have r0 := hR2.cell (i := 0) (v := .int .i64 0) rfl
  have r1 := hR2.cell (i := 1) (v := .int .i64 0) rfl
  have rf := fun i => hR2.free i
  replace hR2 := Lib.hid hR2
  replace hT2 := Lib.hid hT2
  go_wp2_with fail
  have hR9 : Blk ((w2.setCell ⟨w.heap.size + 1, 0, none⟩ (.int .i64 7)).setCell ⟨w.heap.size + 1, 1, none⟩ (.int .i64 0)) (w.heap.size + 1) #[.int .i64 7, .int .i64 0] 43 := (hR2.out.set 0 (.int .i64 7)).set 1 (.int .i64 0)
  have gx : GrX [w.heap.size + 1] w2 ((w2.setCell ⟨w.heap.size + 1, 0, none⟩ (.int .i64 7)).setCell ⟨w.heap.size + 1, 1, none⟩ (.int .i64 0)) := ((GrX.refl _ _).set (.inl (by simp)) _).set (.inl (by simp)) _
  have q0 := hR9.cell (i := 0) (v := .int .i64 7) rfl
  have q1 := hR9.cell (i := 1) (v := .int .i64 0) rfl
  refine bodyPost_ret (v := .agg #[.int .i64 7, .int .i64 0]) (by simp [results, Tryz.results97, go_sem, q0, q1]) rfl ?_
  have hwB : W0.heap.size ≤ w.heap.size := g0.size
  exact ⟨rfl, T, hT2.out.away gx (fun y hy ht => by have := hlt.out y ht; simp at hy; omega), rfl, gx.all gW2 (fun y hy => by simp at hy; omega)⟩
set_option maxRecDepth 100000 in
set_option maxHeartbeats 12800000 in
theorem create_leg {G : List Nat} {E : Nat → Addr} (W0 : World) (hE : EAt G E W0) (i0 : 4 ∈ G) (i1 : 5 ∈ G) (i3 : 7 ∈ G) (T : TM) (w : World) (tb B : Nat) (h : OutAt B w tb T) (hB0 : W0.heap.size ≤ B) (g0 : Gr W0 w) (hs : Srt T.N) (hl : Low T.N) (hn1 : 0 ≤ T.now) (hn2 : T.now ≤ 1099511627776) (hla : 0 ≤ T.last) (hlb : T.last ≤ 1000000) (hlid : ∀ x ∈ T.N, x.e.id ≤ T.last) (o : OrdV) (oa : Option Addr) (oc : Nat) (hleg : o.srv.leg = true) :
    Calls Tryz.prog 97 #[.pointer (some ⟨tb, 0, none⟩), .agg #[.int .i64 o.kd, .int .i64 o.id, .int .i64 o.srv.k, .int .i64 o.srv.q, .int .i64 o.srv.t, .int .i64 o.pol, .slice oa o.tasks.length oc, .int .i64 o.at_]] w (OrdP B W0 tb (T.v.create o)) := by
  obtain ⟨V, hV⟩ : ∃ V, V = T.v.create o := ⟨_, rfl⟩
  rw [← hV]
  obtain ⟨W, hW⟩ : ∃ W, W = (w.alloc (.cells #[.int .i64 o.kd, .int .i64 o.id, .int .i64 o.srv.k, .int .i64 o.srv.q, .int .i64 o.srv.t, .int .i64 o.pol, .slice oa o.tasks.length oc, .int .i64 o.at_] 27)).alloc (.cells #[.int .i64 0, .int .i64 0] 43) := ⟨_, rfl⟩
  have gA : Gr w W := by rw [hW]; exact ((Gr.refl w).alloc _).alloc _
  have hOW : Blk W w.heap.size #[.int .i64 o.kd, .int .i64 o.id, .int .i64 o.srv.k, .int .i64 o.srv.q, .int .i64 o.srv.t, .int .i64 o.pol, .slice oa o.tasks.length oc, .int .i64 o.at_] 27 := by rw [hW]; exact (Blk.new w _ _).alloc _
  have hRW : Blk W (w.heap.size + 1) #[.int .i64 0, .int .i64 0] 43 := by
    rw [hW]
    have := Blk.new (w.alloc (.cells #[.int .i64 o.kd, .int .i64 o.id, .int .i64 o.srv.k, .int .i64 o.srv.q, .int .i64 o.srv.t, .int .i64 o.pol, .slice oa o.tasks.length oc, .int .i64 o.at_] 27)) #[.int .i64 0, .int .i64 0] 43
    rw [World.size_alloc] at this
    exact this
  have hTW := h.gr gA
  have gWW := g0.trans gA
  have hg0z := g0.size
  have hWz : W.heap.size = w.heap.size + 2 := by rw [hW]; simp
  have hlt : ∀ y, treeB tb T y → y < w.heap.size := fun y hy => treeB_lt h hy
  replace hW := Lib.hid hW
  replace hOW := Lib.hid hOW
  replace hRW := Lib.hid hRW
  replace hTW := Lib.hid hTW
  replace hlt := Lib.hid hlt
  replace h := Lib.hid h
  replace hV := Lib.hid hV
  replace hWz := Lib.hid hWz
  replace hs := Lib.hid hs
  have hck := checkServer_yes o.srv.k o.srv.q o.srv.t W hleg
  replace hck := Lib.hid hck
  replace hleg := Lib.hid hleg
  replace hl := Lib.hid hl
  replace hlid := Lib.hid hlid
  have c0 := hTW.out.o.cell (i := 0) (v := .slice T.an T.N.length T.cn) rfl
  have c1 := hTW.out.o.cell (i := 1) (v := .slice T.ag T.G.length T.cg) rfl
  have c2 := hTW.out.o.cell (i := 2) (v := .int .i64 T.last) rfl
  have c3 := hTW.out.o.cell (i := 3) (v := .int .i64 T.now) rfl
  have o0 := hOW.out.cell (i := 0) (v := .int .i64 o.kd) rfl
  have o1 := hOW.out.cell (i := 1) (v := .int .i64 o.id) rfl
  have o2 := hOW.out.cell (i := 2) (v := .int .i64 o.srv.k) rfl
  have o3 := hOW.out.cell (i := 3) (v := .int .i64 o.srv.q) rfl
  have o4 := hOW.out.cell (i := 4) (v := .int .i64 o.srv.t) rfl
  have o5 := hOW.out.cell (i := 5) (v := .int .i64 o.pol) rfl
  have o6 := hOW.out.cell (i := 6) (v := .slice oa o.tasks.length oc) rfl
  have o7 := hOW.out.cell (i := 7) (v := .int .i64 o.at_) rfl
  go_enter Tryz.func97, Tryz.ntmps97
  go_upto_region 1 with fail
  rw [← hW.out]
  go_wp2_with fail
  refine hck.out.mono ?_
  rintro e w1 ⟨rfl, g1⟩
  clear c0 c1 c2 c3 o0 o1 o2 o3 o4 o5 o6 o7
  have hT1 := hTW.out.gr g1
  have zt1 := hT1.o.lt
  have hO1 := hOW.out.gr g1
  have zo1 := hO1.lt
  have hR1 := hRW.out.gr g1
  have gW1 := gWW.trans g1
  replace hT1 := Lib.hid hT1
  replace hO1 := Lib.hid hO1
  replace hR1 := Lib.hid hR1
  have c0 := hT1.out.o.cell (i := 0) (v := .slice T.an T.N.length T.cn) rfl
  have c1 := hT1.out.o.cell (i := 1) (v := .slice T.ag T.G.length T.cg) rfl
  have c2 := hT1.out.o.cell (i := 2) (v := .int .i64 T.last) rfl
  have c3 := hT1.out.o.cell (i := 3) (v := .int .i64 T.now) rfl
  have o0 := hO1.out.cell (i := 0) (v := .int .i64 o.kd) rfl
  have o1 := hO1.out.cell (i := 1) (v := .int .i64 o.id) rfl
  have o2 := hO1.out.cell (i := 2) (v := .int .i64 o.srv.k) rfl
  have o3 := hO1.out.cell (i := 3) (v := .int .i64 o.srv.q) rfl
  have o4 := hO1.out.cell (i := 4) (v := .int .i64 o.srv.t) rfl
  have o5 := hO1.out.cell (i := 5) (v := .int .i64 o.pol) rfl
  have o6 := hO1.out.cell (i := 6) (v := .slice oa o.tasks.length oc) rfl
  have o7 := hO1.out.cell (i := 7) (v := .int .i64 o.at_) rfl
  obtain ⟨s, hsd⟩ : ∃ s, s = (T.v.server o.id).getD rootS := ⟨_, rfl⟩
  obtain ⟨sb, hsb⟩ : ∃ sb, sb = (T.v.server o.id).isSome := ⟨_, rfl⟩
  have hsr : ∀ w', Gr w1 w' → Calls Tryz.prog 112 #[.agg T.row, .int .i64 o.id] w' fun e w2 => e = .returned (.tuple #[.agg #[.int .i64 s.k, .int .i64 s.q, .int .i64 s.t], .bool sb]) ∧ Gr w' w2 := fun w' gg => (server_any T o.id w' (hT1.out.gr gg).any hs.out).mono (fun e w2 ⟨s2, h2, h3, h4⟩ => by rw [← hsd] at h2; subst h2; rw [← hsb] at h3; exact ⟨h3, h4⟩)
  replace hsd := Lib.hid hsd
  replace hsb := Lib.hid hsb
  replace hsr := Lib.hid hsr
  go_upto_region 3 with fail
  go_cut [5, 6] (fun s5 s6 wx => ∃ pb : Nat, s5 = .pointer (some ⟨pb, 0, none⟩) ∧ s6 = .bool sb ∧ Hid (Blk wx pb #[.int .i64 s.k, .int .i64 s.q, .int .i64 s.t] 24 ∧ Gr w1 wx))
  case first =>
    go_region_held3 (fun w' => w'.cell? ⟨tb, 0, none⟩ = some (.slice T.an T.N.length T.cn) ∧ w'.cell? ⟨tb, 1, none⟩ = some (.slice T.ag T.G.length T.cg) ∧ w'.cell? ⟨tb, 2, none⟩ = some (.int .i64 T.last) ∧ w'.cell? ⟨tb, 3, none⟩ = some (.int .i64 T.now) ∧ w'.cell? ⟨w.heap.size, 0, none⟩ = some (.int .i64 o.kd) ∧ w'.cell? ⟨w.heap.size, 1, none⟩ = some (.int .i64 o.id) ∧ w'.cell? ⟨w.heap.size, 2, none⟩ = some (.int .i64 o.srv.k) ∧ w'.cell? ⟨w.heap.size, 3, none⟩ = some (.int .i64 o.srv.q) ∧ w'.cell? ⟨w.heap.size, 4, none⟩ = some (.int .i64 o.srv.t) ∧ w'.cell? ⟨w.heap.size, 5, none⟩ = some (.int .i64 o.pol) ∧ w'.cell? ⟨w.heap.size, 6, none⟩ = some (.slice oa o.tasks.length oc) ∧ w'.cell? ⟨w.heap.size, 7, none⟩ = some (.int .i64 o.at_)) (simp (maxDischargeDepth := 8) [go_sem, *])
      (first
        | (go_at_call 112; (with_reducible refine (hsr.out w1.drew ((Gr.refl _).drew)).mono ?_); rintro e w3 ⟨rfl, gc⟩; have gq : Gr w1 w3 := ((Gr.refl w1).drew).trans gc; have hT3 := hT1.out.gr gq; have zt3 := hT3.o.lt; have hO3 := hO1.out.gr gq; have zo3 := hO3.lt; have hR3 := hR1.out.gr gq; have gW3 := gW1.trans gq; replace hT3 := Lib.hid hT3; replace hO3 := Lib.hid hO3; replace hR3 := Lib.hid hR3; have m0 := hT3.out.o.cell (i := 0) (v := .slice T.an T.N.length T.cn) rfl; have m1 := hT3.out.o.cell (i := 1) (v := .slice T.ag T.G.length T.cg) rfl; have m2 := hT3.out.o.cell (i := 2) (v := .int .i64 T.last) rfl; have m3 := hT3.out.o.cell (i := 3) (v := .int .i64 T.now) rfl; have n0 := hO3.out.cell (i := 0) (v := .int .i64 o.kd) rfl; have n1 := hO3.out.cell (i := 1) (v := .int .i64 o.id) rfl; have n2 := hO3.out.cell (i := 2) (v := .int .i64 o.srv.k) rfl; have n3 := hO3.out.cell (i := 3) (v := .int .i64 o.srv.q) rfl; have n4 := hO3.out.cell (i := 4) (v := .int .i64 o.srv.t) rfl; have n5 := hO3.out.cell (i := 5) (v := .int .i64 o.pol) rfl; have n6 := hO3.out.cell (i := 6) (v := .slice oa o.tasks.length oc) rfl; have n7 := hO3.out.cell (i := 7) (v := .int .i64 o.at_) rfl)
        | (go_at_call 112; (with_reducible refine (hsr.out (w1.alloc (.cells #[.int .i64 0, .int .i64 0, .int .i64 0] 24)).drew (((Gr.refl _).alloc _).drew)).mono ?_); rintro e w3 ⟨rfl, gc⟩; have gq : Gr w1 w3 := (((Gr.refl w1).alloc _).drew).trans gc; have hP := ((Blk.new w1 #[.int .i64 0, .int .i64 0, .int .i64 0] 24).drew).gr gc; have p0 := hP.cell (i := 0) (v := .int .i64 0) rfl; have p1 := hP.cell (i := 1) (v := .int .i64 0) rfl; have p2 := hP.cell (i := 2) (v := .int .i64 0) rfl; have pf := fun i => hP.free i; replace hP := Lib.hid hP; have hT3 := hT1.out.gr gq; have zt3 := hT3.o.lt; have hO3 := hO1.out.gr gq; have zo3 := hO3.lt; have hR3 := hR1.out.gr gq; have gW3 := gW1.trans gq; replace hT3 := Lib.hid hT3; replace hO3 := Lib.hid hO3; replace hR3 := Lib.hid hR3; have m0 := hT3.out.o.cell (i := 0) (v := .slice T.an T.N.length T.cn) rfl; have m1 := hT3.out.o.cell (i := 1) (v := .slice T.ag T.G.length T.cg) rfl; have m2 := hT3.out.o.cell (i := 2) (v := .int .i64 T.last) rfl; have m3 := hT3.out.o.cell (i := 3) (v := .int .i64 T.now) rfl; have n0 := hO3.out.cell (i := 0) (v := .int .i64 o.kd) rfl; have n1 := hO3.out.cell (i := 1) (v := .int .i64 o.id) rfl; have n2 := hO3.out.cell (i := 2) (v := .int .i64 o.srv.k) rfl; have n3 := hO3.out.cell (i := 3) (v := .int .i64 o.srv.q) rfl; have n4 := hO3.out.cell (i := 4) (v := .int .i64 o.srv.t) rfl; have n5 := hO3.out.cell (i := 5) (v := .int .i64 o.pol) rfl; have n6 := hO3.out.cell (i := 6) (v := .slice oa o.tasks.length oc) rfl; have n7 := hO3.out.cell (i := 7) (v := .int .i64 o.at_) rfl)
        | fail)
    all_goals go_wp2_with fail
    all_goals go_meet
    · exact ⟨_, rfl, rfl, Lib.hid ⟨Blk.new w3 _ _, gq.alloc _⟩⟩
    · exact ⟨_, rfl, rfl, Lib.hid ⟨((hP.out.set 0 _).set 1 _).set 2 _, ((gq.setCell (Nat.le_refl _) _).setCell (Nat.le_refl _) _).setCell (Nat.le_refl _) _⟩⟩
  case rest =>
    obtain ⟨pb, rfl, rfl, hc⟩ := hcut
    obtain ⟨hPb, gc4⟩ := hc.out
    obtain ⟨w4, rfl⟩ : ∃ w4 : World, w4 = wc := ⟨_, rfl⟩
    clear c0 c1 c2 c3 o0 o1 o2 o3 o4 o5 o6 o7
    clear hc
    have hT4 := hT1.out.gr gc4
    have zt4 := hT4.o.lt
    have hO4 := hO1.out.gr gc4
    have zo4 := hO4.lt
    have hR4 := hR1.out.gr gc4
    have gW4 := gW1.trans gc4
    replace hT4 := Lib.hid hT4
    replace hO4 := Lib.hid hO4
    replace hR4 := Lib.hid hR4
    replace hPb := Lib.hid hPb
    cases hsv : T.v.server o.id with
    | none =>
      obtain rfl : sb = false := by rw [hsb.out, hsv]; rfl
      replace hsv := Lib.hid hsv
      go_wp2_with fail
      refine (refused_any 1 _).mono ?_
      rintro e wz ⟨rfl, gz⟩
      have hRz := hR4.out.gr gz
      have hTz := hT4.out.gr gz
      have gWz := gW4.trans gz
      have r0 := hRz.cell (i := 0) (v := .int .i64 0) rfl
      have r1 := hRz.cell (i := 1) (v := .int .i64 0) rfl
      have rf := fun i => hRz.free i
      replace hRz := Lib.hid hRz
      replace hTz := Lib.hid hTz
      go_wp2_with fail
      have hR9 : Blk ((wz.setCell ⟨w.heap.size + 1, 0, none⟩ (.int .i64 1)).setCell ⟨w.heap.size + 1, 1, none⟩ (.int .i64 0)) (w.heap.size + 1) #[.int .i64 1, .int .i64 0] 43 := (hRz.out.set 0 (.int .i64 1)).set 1 (.int .i64 0)
      have gx : GrX [w.heap.size + 1] wz ((wz.setCell ⟨w.heap.size + 1, 0, none⟩ (.int .i64 1)).setCell ⟨w.heap.size + 1, 1, none⟩ (.int .i64 0)) := ((GrX.refl _ _).set (.inl (by simp)) _).set (.inl (by simp)) _
      have q0 := hR9.cell (i := 0) (v := .int .i64 1) rfl
      have q1 := hR9.cell (i := 1) (v := .int .i64 0) rfl
      refine bodyPost_ret (v := .agg #[.int .i64 1, .int .i64 0]) (by simp [results, Tryz.results97, go_sem, q0, q1]) rfl ?_
      have hVe : V = (T.v, 1, 0) := by rw [hV.out]; unfold TreeV.create; rw [if_neg (by rw [hleg.out]; decide), hsv.out]
      rw [hVe]
      exact ⟨rfl, T, hTz.out.away gx (fun y hy ht => by have := hlt.out y ht; simp at hy; omega), rfl, gx.all gWz (fun y hy => by simp at hy; have := hg0z; omega)⟩
    | some s0 =>
      obtain rfl : sb = true := by rw [hsb.out, hsv]; rfl
      obtain rfl : s = s0 := by rw [hsd.out, hsv]; rfl
      replace hsv := Lib.hid hsv
      obtain ⟨n, hn⟩ : ∃ n, n = (T.v.find o.id).getD Nd.zero := ⟨_, rfl⟩
      obtain ⟨fb, hfb⟩ : ∃ fb, fb = (T.v.find o.id).isSome := ⟨_, rfl⟩
      have hfd : ∀ w', Gr w4 w' → Calls Tryz.prog 113 #[.agg T.row, .int .i64 o.id] w' fun e w2 => ∃ (na : Option Addr) (nc : Nat), e = .returned (.tuple #[.agg #[.int .i64 n.id, .int .i64 n.par, .int .i64 n.srv.k, .int .i64 n.srv.q, .int .i64 n.srv.t, .int .i64 n.pol, .slice na n.tasks.length nc], .bool fb]) ∧ Gr w' w2 := fun w' gg => (find_any T o.id w' (hT4.out.gr gg).any hs.out).mono (fun e w2 ⟨n2, na, nc, h2, h3, h4⟩ => by rw [← hn] at h2; subst h2; rw [← hfb] at h3; exact ⟨na, nc, h3, h4⟩)
      replace hn := Lib.hid hn
      replace hfb := Lib.hid hfb
      replace hfd := Lib.hid hfd
      have c0 := hT4.out.o.cell (i := 0) (v := .slice T.an T.N.length T.cn) rfl
      have c1 := hT4.out.o.cell (i := 1) (v := .slice T.ag T.G.length T.cg) rfl
      have c2 := hT4.out.o.cell (i := 2) (v := .int .i64 T.last) rfl
      have c3 := hT4.out.o.cell (i := 3) (v := .int .i64 T.now) rfl
      have o0 := hO4.out.cell (i := 0) (v := .int .i64 o.kd) rfl
      have o1 := hO4.out.cell (i := 1) (v := .int .i64 o.id) rfl
      have o2 := hO4.out.cell (i := 2) (v := .int .i64 o.srv.k) rfl
      have o3 := hO4.out.cell (i := 3) (v := .int .i64 o.srv.q) rfl
      have o4 := hO4.out.cell (i := 4) (v := .int .i64 o.srv.t) rfl
      have o5 := hO4.out.cell (i := 5) (v := .int .i64 o.pol) rfl
      have o6 := hO4.out.cell (i := 6) (v := .slice oa o.tasks.length oc) rfl
      have o7 := hO4.out.cell (i := 7) (v := .int .i64 o.at_) rfl
      go_upto_region 6 with fail
      go_cut [7, 8] (fun s7 s8 wx => ∃ (nb : Nat) (na : Option Addr) (nc : Nat), s7 = .pointer (some ⟨nb, 0, none⟩) ∧ s8 = .bool fb ∧ Hid (Blk wx nb #[.int .i64 n.id, .int .i64 n.par, .int .i64 n.srv.k, .int .i64 n.srv.q, .int .i64 n.srv.t, .int .i64 n.pol, .slice na n.tasks.length nc] 90 ∧ Gr w4 wx))
      case first =>
        go_region_held3 (fun w' => w'.cell? ⟨tb, 0, none⟩ = some (.slice T.an T.N.length T.cn) ∧ w'.cell? ⟨tb, 1, none⟩ = some (.slice T.ag T.G.length T.cg) ∧ w'.cell? ⟨tb, 2, none⟩ = some (.int .i64 T.last) ∧ w'.cell? ⟨tb, 3, none⟩ = some (.int .i64 T.now) ∧ w'.cell? ⟨w.heap.size, 0, none⟩ = some (.int .i64 o.kd) ∧ w'.cell? ⟨w.heap.size, 1, none⟩ = some (.int .i64 o.id) ∧ w'.cell? ⟨w.heap.size, 2, none⟩ = some (.int .i64 o.srv.k) ∧ w'.cell? ⟨w.heap.size, 3, none⟩ = some (.int .i64 o.srv.q) ∧ w'.cell? ⟨w.heap.size, 4, none⟩ = some (.int .i64 o.srv.t) ∧ w'.cell? ⟨w.heap.size, 5, none⟩ = some (.int .i64 o.pol) ∧ w'.cell? ⟨w.heap.size, 6, none⟩ = some (.slice oa o.tasks.length oc) ∧ w'.cell? ⟨w.heap.size, 7, none⟩ = some (.int .i64 o.at_)) (simp (maxDischargeDepth := 8) [go_sem, *])
          (first
            | (go_at_call 113; (with_reducible refine (hfd.out w4.drew ((Gr.refl _).drew)).mono ?_); rintro e w5 ⟨na, nc, rfl, gc⟩; have gq : Gr w4 w5 := ((Gr.refl w4).drew).trans gc; have hT5 := hT4.out.gr gq; have zt5 := hT5.o.lt; have hO5 := hO4.out.gr gq; have zo5 := hO5.lt; have hR5 := hR4.out.gr gq; have gW5 := gW4.trans gq; replace hT5 := Lib.hid hT5; replace hO5 := Lib.hid hO5; replace hR5 := Lib.hid hR5; have m0 := hT5.out.o.cell (i := 0) (v := .slice T.an T.N.length T.cn) rfl; have m1 := hT5.out.o.cell (i := 1) (v := .slice T.ag T.G.length T.cg) rfl; have m2 := hT5.out.o.cell (i := 2) (v := .int .i64 T.last) rfl; have m3 := hT5.out.o.cell (i := 3) (v := .int .i64 T.now) rfl; have n0 := hO5.out.cell (i := 0) (v := .int .i64 o.kd) rfl; have n1 := hO5.out.cell (i := 1) (v := .int .i64 o.id) rfl; have n2 := hO5.out.cell (i := 2) (v := .int .i64 o.srv.k) rfl; have n3 := hO5.out.cell (i := 3) (v := .int .i64 o.srv.q) rfl; have n4 := hO5.out.cell (i := 4) (v := .int .i64 o.srv.t) rfl; have n5 := hO5.out.cell (i := 5) (v := .int .i64 o.pol) rfl; have n6 := hO5.out.cell (i := 6) (v := .slice oa o.tasks.length oc) rfl; have n7 := hO5.out.cell (i := 7) (v := .int .i64 o.at_) rfl)
            | (go_at_call 113; (with_reducible refine (hfd.out (w4.alloc (.cells #[.int .i64 0, .int .i64 0, .int .i64 0, .int .i64 0, .int .i64 0, .int .i64 0, .slice none 0 0] 90)).drew (((Gr.refl _).alloc _).drew)).mono ?_); rintro e w5 ⟨na, nc, rfl, gc⟩; have gq : Gr w4 w5 := (((Gr.refl w4).alloc _).drew).trans gc; have hP := ((Blk.new w4 #[.int .i64 0, .int .i64 0, .int .i64 0, .int .i64 0, .int .i64 0, .int .i64 0, .slice none 0 0] 90).drew).gr gc; have p0 := hP.cell (i := 0) (v := .int .i64 0) rfl; have p1 := hP.cell (i := 1) (v := .int .i64 0) rfl; have p2 := hP.cell (i := 2) (v := .int .i64 0) rfl; have p3 := hP.cell (i := 3) (v := .int .i64 0) rfl; have p4 := hP.cell (i := 4) (v := .int .i64 0) rfl; have p5 := hP.cell (i := 5) (v := .int .i64 0) rfl; have p6 := hP.cell (i := 6) (v := .slice none 0 0) rfl; have pf := fun i => hP.free i; replace hP := Lib.hid hP; have hT5 := hT4.out.gr gq; have zt5 := hT5.o.lt; have hO5 := hO4.out.gr gq; have zo5 := hO5.lt; have hR5 := hR4.out.gr gq; have gW5 := gW4.trans gq; replace hT5 := Lib.hid hT5; replace hO5 := Lib.hid hO5; replace hR5 := Lib.hid hR5; have m0 := hT5.out.o.cell (i := 0) (v := .slice T.an T.N.length T.cn) rfl; have m1 := hT5.out.o.cell (i := 1) (v := .slice T.ag T.G.length T.cg) rfl; have m2 := hT5.out.o.cell (i := 2) (v := .int .i64 T.last) rfl; have m3 := hT5.out.o.cell (i := 3) (v := .int .i64 T.now) rfl; have n0 := hO5.out.cell (i := 0) (v := .int .i64 o.kd) rfl; have n1 := hO5.out.cell (i := 1) (v := .int .i64 o.id) rfl; have n2 := hO5.out.cell (i := 2) (v := .int .i64 o.srv.k) rfl; have n3 := hO5.out.cell (i := 3) (v := .int .i64 o.srv.q) rfl; have n4 := hO5.out.cell (i := 4) (v := .int .i64 o.srv.t) rfl; have n5 := hO5.out.cell (i := 5) (v := .int .i64 o.pol) rfl; have n6 := hO5.out.cell (i := 6) (v := .slice oa o.tasks.length oc) rfl; have n7 := hO5.out.cell (i := 7) (v := .int .i64 o.at_) rfl)
            | fail)
        all_goals go_wp2_with fail
        all_goals go_meet
        · exact ⟨_, _, _, rfl, rfl, Lib.hid ⟨Blk.new w5 _ _, gq.alloc _⟩⟩
        · exact ⟨_, _, _, rfl, rfl, Lib.hid ⟨((((((hP.out.set 0 _).set 1 _).set 2 _).set 3 _).set 4 _).set 5 _).set 6 _, ((((((gq.setCell (Nat.le_refl _) _).setCell (Nat.le_refl _) _).setCell (Nat.le_refl _) _).setCell (Nat.le_refl _) _).setCell (Nat.le_refl _) _).setCell (Nat.le_refl _) _).setCell (Nat.le_refl _) _⟩⟩
      case rest =>
        obtain ⟨nb, na, nc, rfl, rfl, hc⟩ := hcut
        obtain ⟨hNb, gc6⟩ := hc.out
        obtain ⟨w6, rfl⟩ : ∃ w6 : World, w6 = wc := ⟨_, rfl⟩
        clear c0 c1 c2 c3 o0 o1 o2 o3 o4 o5 o6 o7
        clear hc
        have hT6 := hT4.out.gr gc6
        have zt6 := hT6.o.lt
        have hO6 := hO4.out.gr gc6
        have zo6 := hO6.lt
        have hR6 := hR4.out.gr gc6
        have gW6 := gW4.trans gc6
        replace hT6 := Lib.hid hT6
        replace hO6 := Lib.hid hO6
        replace hR6 := Lib.hid hR6
        have np := hNb.cell (i := 5) (v := .int .i64 n.pol) rfl
        replace hNb := Lib.hid hNb
        by_cases hpol : n.pol = 0
        · have tp : (n.pol != 0) = false := by simpa using hpol
          replace hpol := Lib.hid hpol
          have c0 := hT6.out.o.cell (i := 0) (v := .slice T.an T.N.length T.cn) rfl
          have c1 := hT6.out.o.cell (i := 1) (v := .slice T.ag T.G.length T.cg) rfl
          have c2 := hT6.out.o.cell (i := 2) (v := .int .i64 T.last) rfl
          have c3 := hT6.out.o.cell (i := 3) (v := .int .i64 T.now) rfl
          have o0 := hO6.out.cell (i := 0) (v := .int .i64 o.kd) rfl
          have o1 := hO6.out.cell (i := 1) (v := .int .i64 o.id) rfl
          have o2 := hO6.out.cell (i := 2) (v := .int .i64 o.srv.k) rfl
          have o3 := hO6.out.cell (i := 3) (v := .int .i64 o.srv.q) rfl
          have o4 := hO6.out.cell (i := 4) (v := .int .i64 o.srv.t) rfl
          have o5 := hO6.out.cell (i := 5) (v := .int .i64 o.pol) rfl
          have o6 := hO6.out.cell (i := 6) (v := .slice oa o.tasks.length oc) rfl
          have o7 := hO6.out.cell (i := 7) (v := .int .i64 o.at_) rfl
          have gd6 : Gr w6 w6.drew := (Gr.refl w6).drew
          have hdp := depth_any T o.id w6.drew (hT6.out.gr gd6).any hs.out hl.out
          obtain ⟨d, hd⟩ : ∃ d, d = T.v.depth o.id := ⟨_, rfl⟩
          rw [← hd] at hdp
          replace hdp := Lib.hid hdp
          replace hd := Lib.hid hd
          go_upto_region 9 with fail
          go_region_held3 (fun w' => w'.cell? ⟨tb, 0, none⟩ = some (.slice T.an T.N.length T.cn) ∧ w'.cell? ⟨tb, 1, none⟩ = some (.slice T.ag T.G.length T.cg) ∧ w'.cell? ⟨tb, 2, none⟩ = some (.int .i64 T.last) ∧ w'.cell? ⟨tb, 3, none⟩ = some (.int .i64 T.now) ∧ w'.cell? ⟨w.heap.size, 0, none⟩ = some (.int .i64 o.kd) ∧ w'.cell? ⟨w.heap.size, 1, none⟩ = some (.int .i64 o.id) ∧ w'.cell? ⟨w.heap.size, 2, none⟩ = some (.int .i64 o.srv.k) ∧ w'.cell? ⟨w.heap.size, 3, none⟩ = some (.int .i64 o.srv.q) ∧ w'.cell? ⟨w.heap.size, 4, none⟩ = some (.int .i64 o.srv.t) ∧ w'.cell? ⟨w.heap.size, 5, none⟩ = some (.int .i64 o.pol) ∧ w'.cell? ⟨w.heap.size, 6, none⟩ = some (.slice oa o.tasks.length oc) ∧ w'.cell? ⟨w.heap.size, 7, none⟩ = some (.int .i64 o.at_)) (simp (maxDischargeDepth := 8) [go_sem, *])
            (first
              | (go_at_call 114; (with_reducible refine hdp.out.mono ?_); rintro e w7 ⟨rfl, g7⟩; have hT7 := hT6.out.gr (gd6.trans g7); have zt7 := hT7.o.lt; have hO7 := hO6.out.gr (gd6.trans g7); have zo7 := hO7.lt; have hR7 := hR6.out.gr (gd6.trans g7); have gW7 := gW6.trans (gd6.trans g7); replace hT7 := Lib.hid hT7; replace hO7 := Lib.hid hO7; replace hR7 := Lib.hid hR7; have m0 := hT7.out.o.cell (i := 0) (v := .slice T.an T.N.length T.cn) rfl; have m1 := hT7.out.o.cell (i := 1) (v := .slice T.ag T.G.length T.cg) rfl; have m2 := hT7.out.o.cell (i := 2) (v := .int .i64 T.last) rfl; have m3 := hT7.out.o.cell (i := 3) (v := .int .i64 T.now) rfl; have n0 := hO7.out.cell (i := 0) (v := .int .i64 o.kd) rfl; have n1 := hO7.out.cell (i := 1) (v := .int .i64 o.id) rfl; have n2 := hO7.out.cell (i := 2) (v := .int .i64 o.srv.k) rfl; have n3 := hO7.out.cell (i := 3) (v := .int .i64 o.srv.q) rfl; have n4 := hO7.out.cell (i := 4) (v := .int .i64 o.srv.t) rfl; have n5 := hO7.out.cell (i := 5) (v := .int .i64 o.pol) rfl; have n6 := hO7.out.cell (i := 6) (v := .slice oa o.tasks.length oc) rfl; have n7 := hO7.out.cell (i := 7) (v := .int .i64 o.at_) rfl)
              | fail)
          clear c0 c1 c2 c3 o0 o1 o2 o3 o4 o5 o6 o7
          clear m0 m1 m2 m3 n0 n1 n2 n3 n4 n5 n6 n7
          clear np tp
          by_cases hdd : 4 ≤ d
          · have tdd : decide (4 ≤ d) = true := decide_eq_true hdd
            have tdv : 4 ≤ d := hdd
            replace hdd := Lib.hid hdd
            go_wp2_with fail
            refine (refused_any 6 _).mono ?_
            rintro e wz ⟨rfl, gz⟩
            have hRz := hR7.out.gr gz
            have hTz := hT7.out.gr gz
            have gWz := gW7.trans gz
            have r0 := hRz.cell (i := 0) (v := .int .i64 0) rfl
            have r1 := hRz.cell (i := 1) (v := .int .i64 0) rfl
            have rf := fun i => hRz.free i
            replace hRz := Lib.hid hRz
            replace hTz := Lib.hid hTz
            go_wp2_with fail
            have hR9 : Blk ((wz.setCell ⟨w.heap.size + 1, 0, none⟩ (.int .i64 6)).setCell ⟨w.heap.size + 1, 1, none⟩ (.int .i64 0)) (w.heap.size + 1) #[.int .i64 6, .int .i64 0] 43 := (hRz.out.set 0 (.int .i64 6)).set 1 (.int .i64 0)
            have gx : GrX [w.heap.size + 1] wz ((wz.setCell ⟨w.heap.size + 1, 0, none⟩ (.int .i64 6)).setCell ⟨w.heap.size + 1, 1, none⟩ (.int .i64 0)) := ((GrX.refl _ _).set (.inl (by simp)) _).set (.inl (by simp)) _
            have q0 := hR9.cell (i := 0) (v := .int .i64 6) rfl
            have q1 := hR9.cell (i := 1) (v := .int .i64 0) rfl
            refine bodyPost_ret (v := .agg #[.int .i64 6, .int .i64 0]) (by simp [results, Tryz.results97, go_sem, q0, q1]) rfl ?_
            have hVe : V = (T.v, 6, 0) := by rw [hV.out]; unfold TreeV.create; rw [if_neg (by rw [hleg.out]; decide), hsv.out]; dsimp only; rw [if_neg (by have h1 := hpol.out; rw [hn.out] at h1; cases hf : T.v.find o.id with | none => simp | some z => rw [hf] at h1; simpa using h1), if_pos (by rw [← hd.out]; have := hdd.out; omega)]
            rw [hVe]
            exact ⟨rfl, T, hTz.out.away gx (fun y hy ht => by have := hlt.out y ht; simp at hy; omega), rfl, gx.all gWz (fun y hy => by simp at hy; have := hg0z; omega)⟩
          · have tdd : decide (4 ≤ d) = false := decide_eq_false hdd
            have tdn : ¬ 4 ≤ d := hdd
            replace hdd := Lib.hid hdd
            have c0 := hT7.out.o.cell (i := 0) (v := .slice T.an T.N.length T.cn) rfl
            have c1 := hT7.out.o.cell (i := 1) (v := .slice T.ag T.G.length T.cg) rfl
            have c2 := hT7.out.o.cell (i := 2) (v := .int .i64 T.last) rfl
            have c3 := hT7.out.o.cell (i := 3) (v := .int .i64 T.now) rfl
            have o0 := hO7.out.cell (i := 0) (v := .int .i64 o.kd) rfl
            have o1 := hO7.out.cell (i := 1) (v := .int .i64 o.id) rfl
            have o2 := hO7.out.cell (i := 2) (v := .int .i64 o.srv.k) rfl
            have o3 := hO7.out.cell (i := 3) (v := .int .i64 o.srv.q) rfl
            have o4 := hO7.out.cell (i := 4) (v := .int .i64 o.srv.t) rfl
            have o5 := hO7.out.cell (i := 5) (v := .int .i64 o.pol) rfl
            have o6 := hO7.out.cell (i := 6) (v := .slice oa o.tasks.length oc) rfl
            have o7 := hO7.out.cell (i := 7) (v := .int .i64 o.at_) rfl
            have gd7 : Gr w7 w7.drew := (Gr.refl w7).drew
            obtain ⟨L, hL⟩ : ∃ L, L = T.v.counted o.id := ⟨_, rfl⟩
            have hLl : L.length ≤ 2000000 := by
              have h1 := cntN_len T.N o.id T.N.length
              have h2 := cntG_len T.G o.id T.G.length
              have h3 := hT7.out.t.l1
              have h4 := hT7.out.t.l2
              rw [hL, cnt_all, List.length_append]
              omega
            have hcn := counted_any T o.id w7.drew (hT7.out.gr gd7).any
            rw [← hL] at hcn
            replace hcn := Lib.hid hcn
            replace hL := Lib.hid hL
            go_upto_region 11 with fail
            go_region_held3 (fun w' => w'.cell? ⟨tb, 0, none⟩ = some (.slice T.an T.N.length T.cn) ∧ w'.cell? ⟨tb, 1, none⟩ = some (.slice T.ag T.G.length T.cg) ∧ w'.cell? ⟨tb, 2, none⟩ = some (.int .i64 T.last) ∧ w'.cell? ⟨tb, 3, none⟩ = some (.int .i64 T.now) ∧ w'.cell? ⟨w.heap.size, 0, none⟩ = some (.int .i64 o.kd) ∧ w'.cell? ⟨w.heap.size, 1, none⟩ = some (.int .i64 o.id) ∧ w'.cell? ⟨w.heap.size, 2, none⟩ = some (.int .i64 o.srv.k) ∧ w'.cell? ⟨w.heap.size, 3, none⟩ = some (.int .i64 o.srv.q) ∧ w'.cell? ⟨w.heap.size, 4, none⟩ = some (.int .i64 o.srv.t) ∧ w'.cell? ⟨w.heap.size, 5, none⟩ = some (.int .i64 o.pol) ∧ w'.cell? ⟨w.heap.size, 6, none⟩ = some (.slice oa o.tasks.length oc) ∧ w'.cell? ⟨w.heap.size, 7, none⟩ = some (.int .i64 o.at_)) (simp (maxDischargeDepth := 8) [go_sem, *])
              (first
                | (go_at_call 115; (with_reducible refine hcn.out.mono ?_); rintro e w8 ⟨la, lc, rfl, hLo, g8⟩; have hT8 := hT7.out.gr (gd7.trans g8); have zt8 := hT8.o.lt; have hO8 := hO7.out.gr (gd7.trans g8); have zo8 := hO8.lt; have hR8 := hR7.out.gr (gd7.trans g8); have gW8 := gW7.trans (gd7.trans g8); replace hT8 := Lib.hid hT8; replace hO8 := Lib.hid hO8; replace hR8 := Lib.hid hR8; have m0 := hT8.out.o.cell (i := 0) (v := .slice T.an T.N.length T.cn) rfl; have m1 := hT8.out.o.cell (i := 1) (v := .slice T.ag T.G.length T.cg) rfl; have m2 := hT8.out.o.cell (i := 2) (v := .int .i64 T.last) rfl; have m3 := hT8.out.o.cell (i := 3) (v := .int .i64 T.now) rfl; have n0 := hO8.out.cell (i := 0) (v := .int .i64 o.kd) rfl; have n1 := hO8.out.cell (i := 1) (v := .int .i64 o.id) rfl; have n2 := hO8.out.cell (i := 2) (v := .int .i64 o.srv.k) rfl; have n3 := hO8.out.cell (i := 3) (v := .int .i64 o.srv.q) rfl; have n4 := hO8.out.cell (i := 4) (v := .int .i64 o.srv.t) rfl; have n5 := hO8.out.cell (i := 5) (v := .int .i64 o.pol) rfl; have n6 := hO8.out.cell (i := 6) (v := .slice oa o.tasks.length oc) rfl; have n7 := hO8.out.cell (i := 7) (v := .int .i64 o.at_) rfl; replace hLo := Lib.hid hLo)
                | fail)
            clear c0 c1 c2 c3 o0 o1 o2 o3 o4 o5 o6 o7
            clear m0 m1 m2 m3 n0 n1 n2 n3 n4 n5 n6 n7
            clear tdd tdn
            have hPb8 := (((hPb.out.gr gc6).gr gd6).gr g7).gr (gd7.trans g8)
            replace hPb8 := Lib.hid hPb8
            have hNl := hT8.out.t.l1
            have c0 := hT8.out.o.cell (i := 0) (v := .slice T.an T.N.length T.cn) rfl
            have c1 := hT8.out.o.cell (i := 1) (v := .slice T.ag T.G.length T.cg) rfl
            have c2 := hT8.out.o.cell (i := 2) (v := .int .i64 T.last) rfl
            have c3 := hT8.out.o.cell (i := 3) (v := .int .i64 T.now) rfl
            have o0 := hO8.out.cell (i := 0) (v := .int .i64 o.kd) rfl
            have o1 := hO8.out.cell (i := 1) (v := .int .i64 o.id) rfl
            have o2 := hO8.out.cell (i := 2) (v := .int .i64 o.srv.k) rfl
            have o3 := hO8.out.cell (i := 3) (v := .int .i64 o.srv.q) rfl
            have o4 := hO8.out.cell (i := 4) (v := .int .i64 o.srv.t) rfl
            have o5 := hO8.out.cell (i := 5) (v := .int .i64 o.pol) rfl
            have o6 := hO8.out.cell (i := 6) (v := .slice oa o.tasks.length oc) rfl
            have o7 := hO8.out.cell (i := 7) (v := .int .i64 o.at_) rfl
            by_cases hnf : 64 ≤ T.N.length
            · have t64 : (64 : Int) ≤ T.N.length := by omega
              replace hnf := Lib.hid hnf
              go_wp2_with fail
              clear c0 c1 c2 c3 o0 o1 o2 o3 o4 o5 o6 o7
              refine (refused_any 5 _).mono ?_
              rintro e wz ⟨rfl, gz⟩
              have hRz := hR8.out.gr gz
              have hTz := hT8.out.gr gz
              have gWz := gW8.trans gz
              have r0 := hRz.cell (i := 0) (v := .int .i64 0) rfl
              have r1 := hRz.cell (i := 1) (v := .int .i64 0) rfl
              have rf := fun i => hRz.free i
              replace hRz := Lib.hid hRz
              replace hTz := Lib.hid hTz
              go_wp2_with fail
              have hR9 : Blk ((wz.setCell ⟨w.heap.size + 1, 0, none⟩ (.int .i64 5)).setCell ⟨w.heap.size + 1, 1, none⟩ (.int .i64 0)) (w.heap.size + 1) #[.int .i64 5, .int .i64 0] 43 := (hRz.out.set 0 (.int .i64 5)).set 1 (.int .i64 0)
              have gx : GrX [w.heap.size + 1] wz ((wz.setCell ⟨w.heap.size + 1, 0, none⟩ (.int .i64 5)).setCell ⟨w.heap.size + 1, 1, none⟩ (.int .i64 0)) := ((GrX.refl _ _).set (.inl (by simp)) _).set (.inl (by simp)) _
              have q0 := hR9.cell (i := 0) (v := .int .i64 5) rfl
              have q1 := hR9.cell (i := 1) (v := .int .i64 0) rfl
              refine bodyPost_ret (v := .agg #[.int .i64 5, .int .i64 0]) (by simp [results, Tryz.results97, go_sem, q0, q1]) rfl ?_
              have hVe : V = (T.v, 5, 0) := by rw [hV.out]; unfold TreeV.create; rw [if_neg (by rw [hleg.out]; decide), hsv.out]; dsimp only; rw [if_neg (by have h1 := hpol.out; rw [hn.out] at h1; cases hf : T.v.find o.id with | none => simp | some z => rw [hf] at h1; simpa using h1), if_neg (by rw [← hd.out]; have := hdd.out; omega), if_pos (by rw [← hL.out]; left; show 64 ≤ (T.N.map (·.e)).length; rw [List.length_map]; have := hnf.out; omega)]
              rw [hVe]
              exact ⟨rfl, T, hTz.out.away gx (fun y hy ht => by have := hlt.out y ht; simp at hy; omega), rfl, gx.all gWz (fun y hy => by simp at hy; have := hg0z; omega)⟩
            · have t64 : ¬ (64 : Int) ≤ T.N.length := by omega
              have t64b : decide ((64 : Int) ≤ T.N.length) = false := decide_eq_false t64
              replace hnf := Lib.hid hnf
              by_cases hlf : 8 ≤ L.length
              · have t8 : (8 : Int) ≤ L.length := by omega
                replace hlf := Lib.hid hlf
                go_wp2_with fail
                clear c0 c1 c2 c3 o0 o1 o2 o3 o4 o5 o6 o7
                refine (refused_any 5 _).mono ?_
                rintro e wz ⟨rfl, gz⟩
                have hRz := hR8.out.gr gz
                have hTz := hT8.out.gr gz
                have gWz := gW8.trans gz
                have r0 := hRz.cell (i := 0) (v := .int .i64 0) rfl
                have r1 := hRz.cell (i := 1) (v := .int .i64 0) rfl
                have rf := fun i => hRz.free i
                replace hRz := Lib.hid hRz
                replace hTz := Lib.hid hTz
                go_wp2_with fail
                have hR9 : Blk ((wz.setCell ⟨w.heap.size + 1, 0, none⟩ (.int .i64 5)).setCell ⟨w.heap.size + 1, 1, none⟩ (.int .i64 0)) (w.heap.size + 1) #[.int .i64 5, .int .i64 0] 43 := (hRz.out.set 0 (.int .i64 5)).set 1 (.int .i64 0)
                have gx : GrX [w.heap.size + 1] wz ((wz.setCell ⟨w.heap.size + 1, 0, none⟩ (.int .i64 5)).setCell ⟨w.heap.size + 1, 1, none⟩ (.int .i64 0)) := ((GrX.refl _ _).set (.inl (by simp)) _).set (.inl (by simp)) _
                have q0 := hR9.cell (i := 0) (v := .int .i64 5) rfl
                have q1 := hR9.cell (i := 1) (v := .int .i64 0) rfl
                refine bodyPost_ret (v := .agg #[.int .i64 5, .int .i64 0]) (by simp [results, Tryz.results97, go_sem, q0, q1]) rfl ?_
                have hVe : V = (T.v, 5, 0) := by rw [hV.out]; unfold TreeV.create; rw [if_neg (by rw [hleg.out]; decide), hsv.out]; dsimp only; rw [if_neg (by have h1 := hpol.out; rw [hn.out] at h1; cases hf : T.v.find o.id with | none => simp | some z => rw [hf] at h1; simpa using h1), if_neg (by rw [← hd.out]; have := hdd.out; omega), if_pos (by rw [← hL.out]; right; have := hlf.out; omega)]
                rw [hVe]
                exact ⟨rfl, T, hTz.out.away gx (fun y hy ht => by have := hlt.out y ht; simp at hy; omega), rfl, gx.all gWz (fun y hy => by simp at hy; have := hg0z; omega)⟩
              · have t8 : ¬ (8 : Int) ≤ L.length := by omega
                have t8b : decide ((8 : Int) ≤ L.length) = false := decide_eq_false t8
                have hl8 : L.length ≤ 7 := by omega
                replace hlf := Lib.hid hlf
                obtain ⟨Lx, hLx⟩ : ∃ Lx, Lx = L ++ [o.srv] := ⟨_, rfl⟩
                have hLx9 : Lx.length ≤ maxLen := by rw [hLx, List.length_append]; simp; unfold maxLen; omega
                obtain ⟨i24, hi, hz0, hz1, hz2⟩ := info_parts Tryz.infoSrv
                have hPb7 := ((hPb.out.gr gc6).gr gd6).gr g7
                replace hPb7 := Lib.hid hPb7
                have gz8 : Gr w8 (w8.alloc (.cells #[.int .i64 o.srv.k, .int .i64 o.srv.q, .int .i64 o.srv.t] 24)).drew := ((Gr.refl w8).alloc _).drew
                have gzz : Gr w7 (w8.alloc (.cells #[.int .i64 o.srv.k, .int .i64 o.srv.q, .int .i64 o.srv.t] 24)).drew := (gd7.trans g8).trans gz8
                have hOz := owns_gr hLo.out gz8
                have hsz : RecsAt 3 Srv.cells (w8.alloc (.cells #[.int .i64 o.srv.k, .int .i64 o.srv.q, .int .i64 o.srv.t] 24)).drew (some ⟨w8.heap.size, 0, none⟩) [o.srv] := (RecsIn.grx (K := Any) ⟨recs_alloc Srv.cells_len w8 [o.srv] 24 #[.int .i64 o.srv.k, .int .i64 o.srv.q, .int .i64 o.srv.t] (by simp), fun _ _ _ => trivial⟩ ((Gr.refl _).drew.x []) (fun _ h => by cases h)).1
                have hbz : w7.heap.size ≤ (w8.alloc (.cells #[.int .i64 o.srv.k, .int .i64 o.srv.q, .int .i64 o.srv.t] 24)).drew.heap.size := gzz.size
                replace hOz := Lib.hid hOz
                replace hsz := Lib.hid hsz
                have zp8 := hPb8.out.lt
                have pc0 := hPb8.out.cell (i := 0) (v := .int .i64 s.k) rfl
                have pc1 := hPb8.out.cell (i := 1) (v := .int .i64 s.q) rfl
                have pc2 := hPb8.out.cell (i := 2) (v := .int .i64 s.t) rfl
                have hkd0 := fun (w' : World) (a' : Option Addr) (c' : Nat) (gg : Gr W0 w') (hh : SrvsAt w' a' Lx) => kids_any s a' Lx c' w' (hE.gr gg) i0 i1 i3 hh hLx9
                replace hLx := Lib.hid hLx
                cases hk : kidsErr s Lx with
                | some ge =>
                  have hkd : ∀ (w' : World) (a' : Option Addr) (c' : Nat), Gr W0 w' → SrvsAt w' a' Lx → Calls Tryz.prog 116 #[.agg #[.int .i64 s.k, .int .i64 s.q, .int .i64 s.t], .slice a' Lx.length c'] w' fun e w2 => e = .returned (.iface 258 (.pointer (some (E ge)))) ∧ Gr w' w2 := fun w' a' c' gg hh => by have := hkd0 w' a' c' gg hh; rw [hk] at this; exact this
                  clear hkd0
                  replace hkd := Lib.hid hkd
                  replace hk := Lib.hid hk
                  go_upto_region 14 with fail
                  go_region_held3 (fun w' => w'.cell? ⟨tb, 0, none⟩ = some (.slice T.an T.N.length T.cn) ∧ w'.cell? ⟨tb, 1, none⟩ = some (.slice T.ag T.G.length T.cg) ∧ w'.cell? ⟨tb, 2, none⟩ = some (.int .i64 T.last) ∧ w'.cell? ⟨tb, 3, none⟩ = some (.int .i64 T.now) ∧ w'.cell? ⟨w.heap.size, 0, none⟩ = some (.int .i64 o.kd) ∧ w'.cell? ⟨w.heap.size, 1, none⟩ = some (.int .i64 o.id) ∧ w'.cell? ⟨w.heap.size, 2, none⟩ = some (.int .i64 o.srv.k) ∧ w'.cell? ⟨w.heap.size, 3, none⟩ = some (.int .i64 o.srv.q) ∧ w'.cell? ⟨w.heap.size, 4, none⟩ = some (.int .i64 o.srv.t) ∧ w'.cell? ⟨w.heap.size, 5, none⟩ = some (.int .i64 o.pol) ∧ w'.cell? ⟨w.heap.size, 6, none⟩ = some (.slice oa o.tasks.length oc) ∧ w'.cell? ⟨w.heap.size, 7, none⟩ = some (.int .i64 o.at_) ∧ w'.cell? ⟨pb, 0, none⟩ = some (.int .i64 s.k) ∧ w'.cell? ⟨pb, 1, none⟩ = some (.int .i64 s.q) ∧ w'.cell? ⟨pb, 2, none⟩ = some (.int .i64 s.t)) (simp (maxDischargeDepth := 8) [go_sem, *])
                    (first
                      | (refine step_append_recs (k := 3) (enc := Srv.cells) (by rfl) _ _ 95 (by rfl) w7.heap.size 24 i24 _ 24 Tryz.underlying95 hi hz0 hz1 hz2 rfl (by decide) Srv.cells_len Srv.cells_one (.slice la L.length lc) L (by rfl) hOz.out ⟨w8.heap.size, 0, none⟩ 1 1 [o.srv] rfl (by rfl) hsz.out (by unfold maxLen; omega) (by omega) hbz ?_; intro v9 w9 hown9 hgr9; rw [← hLx.out] at hown9; obtain ⟨a9, c9, e9, -, -, -⟩ := recs_of_owns Srv.cells_len hown9; subst e9; have gq : Gr w7 w9 := gzz.grown hgr9 (fun y hy => (owns_lt hOz.out y hy).2); have hT9 := hT7.out.gr gq; have zt9 := hT9.o.lt; have hO9 := hO7.out.gr gq; have zo9 := hO9.lt; have hR9 := hR7.out.gr gq; have gW9 := gW7.trans gq; replace hT9 := Lib.hid hT9; replace hO9 := Lib.hid hO9; replace hR9 := Lib.hid hR9; have m0 := hT9.out.o.cell (i := 0) (v := .slice T.an T.N.length T.cn) rfl; have m1 := hT9.out.o.cell (i := 1) (v := .slice T.ag T.G.length T.cg) rfl; have m2 := hT9.out.o.cell (i := 2) (v := .int .i64 T.last) rfl; have m3 := hT9.out.o.cell (i := 3) (v := .int .i64 T.now) rfl; have n0 := hO9.out.cell (i := 0) (v := .int .i64 o.kd) rfl; have n1 := hO9.out.cell (i := 1) (v := .int .i64 o.id) rfl; have n2 := hO9.out.cell (i := 2) (v := .int .i64 o.srv.k) rfl; have n3 := hO9.out.cell (i := 3) (v := .int .i64 o.srv.q) rfl; have n4 := hO9.out.cell (i := 4) (v := .int .i64 o.srv.t) rfl; have n5 := hO9.out.cell (i := 5) (v := .int .i64 o.pol) rfl; have n6 := hO9.out.cell (i := 6) (v := .slice oa o.tasks.length oc) rfl; have n7 := hO9.out.cell (i := 7) (v := .int .i64 o.at_) rfl; have hPb9 := hPb7.out.gr gq; have pm0 := hPb9.cell (i := 0) (v := .int .i64 s.k) rfl; have pm1 := hPb9.cell (i := 1) (v := .int .i64 s.q) rfl; have pm2 := hPb9.cell (i := 2) (v := .int .i64 s.t) rfl; have zp9 := hPb9.lt; replace hPb9 := Lib.hid hPb9; replace hown9 := Lib.hid hown9; clear hgr9)
                      | (go_at_call 116; (with_reducible refine (hkd.out w9 a9 c9 gW9 (owns_srvs hown9.out)).mono ?_); rintro e w10 ⟨rfl, g10⟩; have hT10 := hT9.out.gr g10; have zt10 := hT10.o.lt; have hO10 := hO9.out.gr g10; have zo10 := hO10.lt; have hR10 := hR9.out.gr g10; have gW10 := gW9.trans g10; replace hT10 := Lib.hid hT10; replace hO10 := Lib.hid hO10; replace hR10 := Lib.hid hR10; have x0 := hT10.out.o.cell (i := 0) (v := .slice T.an T.N.length T.cn) rfl; have x1 := hT10.out.o.cell (i := 1) (v := .slice T.ag T.G.length T.cg) rfl; have x2 := hT10.out.o.cell (i := 2) (v := .int .i64 T.last) rfl; have x3 := hT10.out.o.cell (i := 3) (v := .int .i64 T.now) rfl; have y0 := hO10.out.cell (i := 0) (v := .int .i64 o.kd) rfl; have y1 := hO10.out.cell (i := 1) (v := .int .i64 o.id) rfl; have y2 := hO10.out.cell (i := 2) (v := .int .i64 o.srv.k) rfl; have y3 := hO10.out.cell (i := 3) (v := .int .i64 o.srv.q) rfl; have y4 := hO10.out.cell (i := 4) (v := .int .i64 o.srv.t) rfl; have y5 := hO10.out.cell (i := 5) (v := .int .i64 o.pol) rfl; have y6 := hO10.out.cell (i := 6) (v := .slice oa o.tasks.length oc) rfl; have y7 := hO10.out.cell (i := 7) (v := .int .i64 o.at_) rfl; have hPb10 := hPb9.out.gr g10; have pn0 := hPb10.cell (i := 0) (v := .int .i64 s.k) rfl; have pn1 := hPb10.cell (i := 1) (v := .int .i64 s.q) rfl; have pn2 := hPb10.cell (i := 2) (v := .int .i64 s.t) rfl; replace hPb10 := Lib.hid hPb10)
                      | fail)
                  clear c0 c1 c2 c3 o0 o1 o2 o3 o4 o5 o6 o7
                  clear m0 m1 m2 m3 n0 n1 n2 n3 n4 n5 n6 n7
                  clear x0 x1 x2 x3 y0 y1 y2 y3 y4 y5 y6 y7 pc0 pc1 pc2 pm0 pm1 pm2 pn0 pn1 pn2
                  go_wp2_with fail
                  refine (refused_any 4 _).mono ?_
                  rintro e wz ⟨rfl, gz⟩
                  have hRz := hR10.out.gr gz
                  have hTz := hT10.out.gr gz
                  have gWz := gW10.trans gz
                  have r0 := hRz.cell (i := 0) (v := .int .i64 0) rfl
                  have r1 := hRz.cell (i := 1) (v := .int .i64 0) rfl
                  have rf := fun i => hRz.free i
                  replace hRz := Lib.hid hRz
                  replace hTz := Lib.hid hTz
                  go_wp2_with fail
                  have hR9 : Blk ((wz.setCell ⟨w.heap.size + 1, 0, none⟩ (.int .i64 4)).setCell ⟨w.heap.size + 1, 1, none⟩ (.int .i64 0)) (w.heap.size + 1) #[.int .i64 4, .int .i64 0] 43 := (hRz.out.set 0 (.int .i64 4)).set 1 (.int .i64 0)
                  have gx : GrX [w.heap.size + 1] wz ((wz.setCell ⟨w.heap.size + 1, 0, none⟩ (.int .i64 4)).setCell ⟨w.heap.size + 1, 1, none⟩ (.int .i64 0)) := ((GrX.refl _ _).set (.inl (by simp)) _).set (.inl (by simp)) _
                  have q0 := hR9.cell (i := 0) (v := .int .i64 4) rfl
                  have q1 := hR9.cell (i := 1) (v := .int .i64 0) rfl
                  refine bodyPost_ret (v := .agg #[.int .i64 4, .int .i64 0]) (by simp [results, Tryz.results97, go_sem, q0, q1]) rfl ?_
                  have hVe : V = (T.v, 4, 0) := by rw [hV.out]; unfold TreeV.create; rw [if_neg (by rw [hleg.out]; decide), hsv.out]; dsimp only; rw [if_neg (by have h1 := hpol.out; rw [hn.out] at h1; cases hf : T.v.find o.id with | none => simp | some z => rw [hf] at h1; simpa using h1), if_neg (by rw [← hd.out]; have := hdd.out; omega), if_neg (by rw [← hL.out]; intro hx; rcases hx with hx | hx; exact absurd (show 64 ≤ T.N.length by have h9 : (T.N.map (·.e)).length = T.N.length := List.length_map ..; rw [← h9]; exact hx) (by have := hnf.out; omega); have := hlf.out; omega), if_pos (by rw [← hL.out, ← hLx.out, hk.out]; simp)]
                  rw [hVe]
                  exact ⟨rfl, T, hTz.out.away gx (fun y hy ht => by have := hlt.out y ht; simp at hy; omega), rfl, gx.all gWz (fun y hy => by simp at hy; have := hg0z; omega)⟩
                | none =>
                  have hkd : ∀ (w' : World) (a' : Option Addr) (c' : Nat), Gr W0 w' → SrvsAt w' a' Lx → Calls Tryz.prog 116 #[.agg #[.int .i64 s.k, .int .i64 s.q, .int .i64 s.t], .slice a' Lx.length c'] w' fun e w2 => e = .returned .nilIface ∧ Gr w' w2 := fun w' a' c' gg hh => by have := hkd0 w' a' c' gg hh; rw [hk] at this; exact this
                  clear hkd0
                  replace hkd := Lib.hid hkd
                  replace hk := Lib.hid hk
                  go_upto_region 14 with fail
                  go_region_held3 (fun w' => w'.cell? ⟨tb, 0, none⟩ = some (.slice T.an T.N.length T.cn) ∧ w'.cell? ⟨tb, 1, none⟩ = some (.slice T.ag T.G.length T.cg) ∧ w'.cell? ⟨tb, 2, none⟩ = some (.int .i64 T.last) ∧ w'.cell? ⟨tb, 3, none⟩ = some (.int .i64 T.now) ∧ w'.cell? ⟨w.heap.size, 0, none⟩ = some (.int .i64 o.kd) ∧ w'.cell? ⟨w.heap.size, 1, none⟩ = some (.int .i64 o.id) ∧ w'.cell? ⟨w.heap.size, 2, none⟩ = some (.int .i64 o.srv.k) ∧ w'.cell? ⟨w.heap.size, 3, none⟩ = some (.int .i64 o.srv.q) ∧ w'.cell? ⟨w.heap.size, 4, none⟩ = some (.int .i64 o.srv.t) ∧ w'.cell? ⟨w.heap.size, 5, none⟩ = some (.int .i64 o.pol) ∧ w'.cell? ⟨w.heap.size, 6, none⟩ = some (.slice oa o.tasks.length oc) ∧ w'.cell? ⟨w.heap.size, 7, none⟩ = some (.int .i64 o.at_) ∧ w'.cell? ⟨pb, 0, none⟩ = some (.int .i64 s.k) ∧ w'.cell? ⟨pb, 1, none⟩ = some (.int .i64 s.q) ∧ w'.cell? ⟨pb, 2, none⟩ = some (.int .i64 s.t)) (simp (maxDischargeDepth := 8) [go_sem, *])
                    (first
                      | (refine step_append_recs (k := 3) (enc := Srv.cells) (by rfl) _ _ 95 (by rfl) w7.heap.size 24 i24 _ 24 Tryz.underlying95 hi hz0 hz1 hz2 rfl (by decide) Srv.cells_len Srv.cells_one (.slice la L.length lc) L (by rfl) hOz.out ⟨w8.heap.size, 0, none⟩ 1 1 [o.srv] rfl (by rfl) hsz.out (by unfold maxLen; omega) (by omega) hbz ?_; intro v9 w9 hown9 hgr9; rw [← hLx.out] at hown9; obtain ⟨a9, c9, e9, -, -, -⟩ := recs_of_owns Srv.cells_len hown9; subst e9; have gq : Gr w7 w9 := gzz.grown hgr9 (fun y hy => (owns_lt hOz.out y hy).2); have hT9 := hT7.out.gr gq; have zt9 := hT9.o.lt; have hO9 := hO7.out.gr gq; have zo9 := hO9.lt; have hR9 := hR7.out.gr gq; have gW9 := gW7.trans gq; replace hT9 := Lib.hid hT9; replace hO9 := Lib.hid hO9; replace hR9 := Lib.hid hR9; have m0 := hT9.out.o.cell (i := 0) (v := .slice T.an T.N.length T.cn) rfl; have m1 := hT9.out.o.cell (i := 1) (v := .slice T.ag T.G.length T.cg) rfl; have m2 := hT9.out.o.cell (i := 2) (v := .int .i64 T.last) rfl; have m3 := hT9.out.o.cell (i := 3) (v := .int .i64 T.now) rfl; have n0 := hO9.out.cell (i := 0) (v := .int .i64 o.kd) rfl; have n1 := hO9.out.cell (i := 1) (v := .int .i64 o.id) rfl; have n2 := hO9.out.cell (i := 2) (v := .int .i64 o.srv.k) rfl; have n3 := hO9.out.cell (i := 3) (v := .int .i64 o.srv.q) rfl; have n4 := hO9.out.cell (i := 4) (v := .int .i64 o.srv.t) rfl; have n5 := hO9.out.cell (i := 5) (v := .int .i64 o.pol) rfl; have n6 := hO9.out.cell (i := 6) (v := .slice oa o.tasks.length oc) rfl; have n7 := hO9.out.cell (i := 7) (v := .int .i64 o.at_) rfl; have hPb9 := hPb7.out.gr gq; have pm0 := hPb9.cell (i := 0) (v := .int .i64 s.k) rfl; have pm1 := hPb9.cell (i := 1) (v := .int .i64 s.q) rfl; have pm2 := hPb9.cell (i := 2) (v := .int .i64 s.t) rfl; have zp9 := hPb9.lt; replace hPb9 := Lib.hid hPb9; replace hown9 := Lib.hid hown9; clear hgr9)
                      | (go_at_call 116; (with_reducible refine (hkd.out w9 a9 c9 gW9 (owns_srvs hown9.out)).mono ?_); rintro e w10 ⟨rfl, g10⟩; have hT10 := hT9.out.gr g10; have zt10 := hT10.o.lt; have hO10 := hO9.out.gr g10; have zo10 := hO10.lt; have hR10 := hR9.out.gr g10; have gW10 := gW9.trans g10; replace hT10 := Lib.hid hT10; replace hO10 := Lib.hid hO10; replace hR10 := Lib.hid hR10; have x0 := hT10.out.o.cell (i := 0) (v := .slice T.an T.N.length T.cn) rfl; have x1 := hT10.out.o.cell (i := 1) (v := .slice T.ag T.G.length T.cg) rfl; have x2 := hT10.out.o.cell (i := 2) (v := .int .i64 T.last) rfl; have x3 := hT10.out.o.cell (i := 3) (v := .int .i64 T.now) rfl; have y0 := hO10.out.cell (i := 0) (v := .int .i64 o.kd) rfl; have y1 := hO10.out.cell (i := 1) (v := .int .i64 o.id) rfl; have y2 := hO10.out.cell (i := 2) (v := .int .i64 o.srv.k) rfl; have y3 := hO10.out.cell (i := 3) (v := .int .i64 o.srv.q) rfl; have y4 := hO10.out.cell (i := 4) (v := .int .i64 o.srv.t) rfl; have y5 := hO10.out.cell (i := 5) (v := .int .i64 o.pol) rfl; have y6 := hO10.out.cell (i := 6) (v := .slice oa o.tasks.length oc) rfl; have y7 := hO10.out.cell (i := 7) (v := .int .i64 o.at_) rfl; have hPb10 := hPb9.out.gr g10; have pn0 := hPb10.cell (i := 0) (v := .int .i64 s.k) rfl; have pn1 := hPb10.cell (i := 1) (v := .int .i64 s.q) rfl; have pn2 := hPb10.cell (i := 2) (v := .int .i64 s.t) rfl; replace hPb10 := Lib.hid hPb10)
                      | fail)
                  clear c0 c1 c2 c3 o0 o1 o2 o3 o4 o5 o6 o7
                  clear m0 m1 m2 m3 n0 n1 n2 n3 n4 n5 n6 n7
                  clear x0 x1 x2 x3 y0 y1 y2 y3 y4 y5 y6 y7 pc0 pc1 pc2 pm0 pm1 pm2 pn0 pn1 pn2
                  have c0 := hT10.out.o.cell (i := 0) (v := .slice T.an T.N.length T.cn) rfl
                  have c1 := hT10.out.o.cell (i := 1) (v := .slice T.ag T.G.length T.cg) rfl
                  have c2 := hT10.out.o.cell (i := 2) (v := .int .i64 T.last) rfl
                  have c3 := hT10.out.o.cell (i := 3) (v := .int .i64 T.now) rfl
                  have o0 := hO10.out.cell (i := 0) (v := .int .i64 o.kd) rfl
                  have o1 := hO10.out.cell (i := 1) (v := .int .i64 o.id) rfl
                  have o2 := hO10.out.cell (i := 2) (v := .int .i64 o.srv.k) rfl
                  have o3 := hO10.out.cell (i := 3) (v := .int .i64 o.srv.q) rfl
                  have o4 := hO10.out.cell (i := 4) (v := .int .i64 o.srv.t) rfl
                  have o5 := hO10.out.cell (i := 5) (v := .int .i64 o.pol) rfl
                  have o6 := hO10.out.cell (i := 6) (v := .slice oa o.tasks.length oc) rfl
                  have o7 := hO10.out.cell (i := 7) (v := .int .i64 o.at_) rfl
                  have fz := fun i => hT10.out.o.free i
                  go_upto_region 17 with fail
                  obtain ⟨wb, hwb⟩ : ∃ wb, wb = w10.setCell ⟨tb, 2, none⟩ (.int .i64 (T.last + 1)) := ⟨_, rfl⟩
                  rw [← hwb]
                  have htl := hlt.out tb (.inl rfl)
                  have hTb : Blk wb tb #[.slice T.an T.N.length T.cn, .slice T.ag T.G.length T.cg, .int .i64 (T.last + 1), .int .i64 T.now] 35 := by rw [hwb]; exact hT10.out.o.set 2 _
                  have hOb : Blk wb w.heap.size #[.int .i64 o.kd, .int .i64 o.id, .int .i64 o.srv.k, .int .i64 o.srv.q, .int .i64 o.srv.t, .int .i64 o.pol, .slice oa o.tasks.length oc, .int .i64 o.at_] 27 := by rw [hwb]; exact hO10.out.other (by show w.heap.size ≠ tb; omega) _
                  have hRb : Blk wb (w.heap.size + 1) #[.int .i64 0, .int .i64 0] 43 := by rw [hwb]; exact hR10.out.other (by show w.heap.size + 1 ≠ tb; omega) _
                  have gxb : GrX [tb] w10 wb := by rw [hwb]; exact (GrX.refl _ _).set (.inl (by simp)) _
                  have hWb : OwnT B wb ⟨T.N, T.an, T.cn, T.G, T.ag, T.cg, T.last + 1, T.now⟩ := hT10.out.t.ghosts gxb (fun k hk hm => owns_blk hT10.out.t.n hT10.out.o (by decide) (by rw [List.mem_singleton.1 hm] at hk; exact hk)) (fun y hy ad ha ht hm => hT10.out.b y hy ad ha ht (List.mem_singleton.1 hm)) _ _ (owns_gx hT10.out.t.g gxb (fun k hk hm => owns_blk hT10.out.t.g hT10.out.o (by decide) (by rw [List.mem_singleton.1 hm] at hk; exact hk))) hT10.out.t.dg hT10.out.t.l2
                  have hBt := hT10.out.hB
                  have gWb : Gr W0 wb := gxb.all gW10 (fun y hy => by rw [List.mem_singleton.1 hy]; omega)
                  obtain ⟨j36, ji, jz0, jz1, jz2⟩ := info_parts Tryz.infoNd
                  have gbz : Gr wb (wb.alloc (.cells #[.int .i64 (T.last + 1), .int .i64 o.id, .int .i64 o.srv.k, .int .i64 o.srv.q, .int .i64 o.srv.t, .int .i64 0, .slice none 0 0] 90)).drew := ((Gr.refl wb).alloc _).drew
                  have hNz := owns_gr hWb.n gbz
                  have hxz : RecsAt 7 NdM.cells (wb.alloc (.cells #[.int .i64 (T.last + 1), .int .i64 o.id, .int .i64 o.srv.k, .int .i64 o.srv.q, .int .i64 o.srv.t, .int .i64 0, .slice none 0 0] 90)).drew (some ⟨wb.heap.size, 0, none⟩) [(⟨⟨T.last + 1, o.id, o.srv, 0, []⟩, none, 0⟩ : NdM)] := (RecsIn.grx (K := Any) ⟨recs_alloc NdM.cells_len wb [(⟨⟨T.last + 1, o.id, o.srv, 0, []⟩, none, 0⟩ : NdM)] 90 #[.int .i64 (T.last + 1), .int .i64 o.id, .int .i64 o.srv.k, .int .i64 o.srv.q, .int .i64 o.srv.t, .int .i64 0, .slice none 0 0] (by simp), fun _ _ _ => trivial⟩ ((Gr.refl _).drew.x []) (fun _ h => by cases h)).1
                  have hbz2 : B ≤ (wb.alloc (.cells #[.int .i64 (T.last + 1), .int .i64 o.id, .int .i64 o.srv.k, .int .i64 o.srv.q, .int .i64 o.srv.t, .int .i64 0, .slice none 0 0] 90)).drew.heap.size := by have := gbz.size; have := hTb.lt; omega
                  have hTz := hTb.gr gbz
                  have hOz2 := hOb.gr gbz
                  have hRz2 := hRb.gr gbz
                  have hnt : (Value.slice T.an T.N.length T.cn).ownBlock ≠ some tb := owns_blk hWb.n hTb (by decide)
                  have hno : (Value.slice T.an T.N.length T.cn).ownBlock ≠ some w.heap.size := owns_blk hWb.n hOb (by decide)
                  have hnr : (Value.slice T.an T.N.length T.cn).ownBlock ≠ some (w.heap.size + 1) := owns_blk hWb.n hRb (by decide)
                  have zt11 := hTb.lt
                  have zo11 := hOb.lt
                  clear c0 c1 c2 c3 o0 o1 o2 o3 o4 o5 o6 o7 fz
                  have u0 := hTb.cell (i := 0) (v := .slice T.an T.N.length T.cn) rfl
                  have u1 := hTb.cell (i := 1) (v := .slice T.ag T.G.length T.cg) rfl
                  have u2 := hTb.cell (i := 2) (v := .int .i64 (T.last + 1)) rfl
                  have u3 := hTb.cell (i := 3) (v := .int .i64 T.now) rfl
                  have v0 := hOb.cell (i := 0) (v := .int .i64 o.kd) rfl
                  have v1 := hOb.cell (i := 1) (v := .int .i64 o.id) rfl
                  have v2 := hOb.cell (i := 2) (v := .int .i64 o.srv.k) rfl
                  have v3 := hOb.cell (i := 3) (v := .int .i64 o.srv.q) rfl
                  have v4 := hOb.cell (i := 4) (v := .int .i64 o.srv.t) rfl
                  have v5 := hOb.cell (i := 5) (v := .int .i64 o.pol) rfl
                  have v6 := hOb.cell (i := 6) (v := .slice oa o.tasks.length oc) rfl
                  have v7 := hOb.cell (i := 7) (v := .int .i64 o.at_) rfl
                  replace hwb := Lib.hid hwb
                  replace hTb := Lib.hid hTb
                  replace hOb := Lib.hid hOb
                  replace hRb := Lib.hid hRb
                  replace hWb := Lib.hid hWb
                  replace hNz := Lib.hid hNz
                  replace hxz := Lib.hid hxz
                  replace hTz := Lib.hid hTz
                  replace hOz2 := Lib.hid hOz2
                  replace hRz2 := Lib.hid hRz2
                  replace hnt := Lib.hid hnt
                  replace hno := Lib.hid hno
                  replace hnr := Lib.hid hnr
                  refine wp_region_Z 18 (fun w' => w'.cell? ⟨tb, 0, none⟩ = some (.slice T.an T.N.length T.cn) ∧ w'.cell? ⟨tb, 1, none⟩ = some (.slice T.ag T.G.length T.cg) ∧ w'.cell? ⟨tb, 2, none⟩ = some (.int .i64 (T.last + 1)) ∧ w'.cell? ⟨tb, 3, none⟩ = some (.int .i64 T.now) ∧ w'.cell? ⟨w.heap.size, 0, none⟩ = some (.int .i64 o.kd) ∧ w'.cell? ⟨w.heap.size, 1, none⟩ = some (.int .i64 o.id) ∧ w'.cell? ⟨w.heap.size, 2, none⟩ = some (.int .i64 o.srv.k) ∧ w'.cell? ⟨w.heap.size, 3, none⟩ = some (.int .i64 o.srv.q) ∧ w'.cell? ⟨w.heap.size, 4, none⟩ = some (.int .i64 o.srv.t) ∧ w'.cell? ⟨w.heap.size, 5, none⟩ = some (.int .i64 o.pol) ∧ w'.cell? ⟨w.heap.size, 6, none⟩ = some (.slice oa o.tasks.length oc) ∧ w'.cell? ⟨w.heap.size, 7, none⟩ = some (.int .i64 o.at_)) (by kernel_rfl) ?_
                  have hS0 : (fun w' => w'.cell? ⟨tb, 0, none⟩ = some (.slice T.an T.N.length T.cn) ∧ w'.cell? ⟨tb, 1, none⟩ = some (.slice T.ag T.G.length T.cg) ∧ w'.cell? ⟨tb, 2, none⟩ = some (.int .i64 (T.last + 1)) ∧ w'.cell? ⟨tb, 3, none⟩ = some (.int .i64 T.now) ∧ w'.cell? ⟨w.heap.size, 0, none⟩ = some (.int .i64 o.kd) ∧ w'.cell? ⟨w.heap.size, 1, none⟩ = some (.int .i64 o.id) ∧ w'.cell? ⟨w.heap.size, 2, none⟩ = some (.int .i64 o.srv.k) ∧ w'.cell? ⟨w.heap.size, 3, none⟩ = some (.int .i64 o.srv.q) ∧ w'.cell? ⟨w.heap.size, 4, none⟩ = some (.int .i64 o.srv.t) ∧ w'.cell? ⟨w.heap.size, 5, none⟩ = some (.int .i64 o.pol) ∧ w'.cell? ⟨w.heap.size, 6, none⟩ = some (.slice oa o.tasks.length oc) ∧ w'.cell? ⟨w.heap.size, 7, none⟩ = some (.int .i64 o.at_)) wb.drew := by (dsimp only; simp (maxDischargeDepth := 8) [go_sem, *])
                  refine wpAnyZ_take (i := 0) (v := ?v0) rfl (by kernel_rfl) (by kernel_rfl) (by kernel_rfl) (by kernel_rfl) (fun _ _ _ h => h) (by rfl) ?y0 hS0 ?r0
                  case y0 => (intro w hSw; (try dsimp only at hSw); go_simp; try with_reducible rfl)
                  try simp only [Act.put, List.setIfInBounds_toArray]
                  refine wpAnyZ_take (i := 1) (v := ?v1) rfl (by kernel_rfl) (by kernel_rfl) (by kernel_rfl) (by kernel_rfl) (fun _ _ _ h => h) (by rfl) ?y1 hS0 ?r1
                  case y1 => (intro w hSw; (try dsimp only at hSw); go_simp; try with_reducible rfl)
                  try simp only [Act.put]
                  refine wpAnyZ_take (i := 2) (v := ?v2) rfl (by kernel_rfl) (by kernel_rfl) (by kernel_rfl) (by kernel_rfl) (fun _ _ _ h => h) (by rfl) ?y2 hS0 ?r2
                  case y2 => (intro w hSw; (try dsimp only at hSw); go_simp; try with_reducible rfl)
                  try simp only [Act.put]
                  refine wpAnyZ_take (i := 3) (v := ?v3) rfl (by kernel_rfl) (by kernel_rfl) (by kernel_rfl) (by kernel_rfl) (fun _ _ _ h => h) (by rfl) ?y3 hS0 ?r3
                  case y3 => (intro w hSw; (try dsimp only at hSw); go_simp; try with_reducible rfl)
                  try simp only [Act.put]
                  refine wpAnyZ_take (i := 4) (v := ?v4) rfl (by kernel_rfl) (by kernel_rfl) (by kernel_rfl) (by kernel_rfl) (fun _ _ _ h => h) (by rfl) ?y4 hS0 ?r4
                  case y4 => (intro w hSw; (try dsimp only at hSw); go_simp; try with_reducible rfl)
                  try simp only [Act.put]
                  refine wpAnyZ_take (i := 5) (v := ?v5) rfl (by kernel_rfl) (by kernel_rfl) (by kernel_rfl) (by kernel_rfl) (fun _ _ _ h => h) (by rfl) ?y5 hS0 ?r5
                  case y5 => (intro w hSw; (try dsimp only at hSw); go_simp; try with_reducible rfl)
                  try simp only [Act.put]
                  refine wpAnyZ_take (i := 6) (v := ?v6) rfl (by kernel_rfl) (by kernel_rfl) (by kernel_rfl) (by kernel_rfl) (fun _ _ _ h => h) (by rfl) ?y6 hS0 ?r6
                  case y6 => (intro w hSw; (try dsimp only at hSw); go_simp; try with_reducible rfl)
                  try simp only [Act.put]
                  refine wpAnyZ_take (i := 7) (v := ?v7) rfl (by kernel_rfl) (by kernel_rfl) (by kernel_rfl) (by kernel_rfl) (fun _ _ _ h => h) (by rfl) ?y7 hS0 ?r7
                  case y7 => (intro w hSw; (try dsimp only at hSw); go_simp; try with_reducible rfl)
                  try simp only [Act.put]
                  refine wpAnyZ_take (i := 8) (v := ?v8) rfl (by kernel_rfl) (by kernel_rfl) (by kernel_rfl) (by kernel_rfl) (fun _ _ _ h => h) (by rfl) ?y8 hS0 ?r8
                  case y8 => (intro w hSw; (try dsimp only at hSw); go_simp; try with_reducible rfl)
                  try simp only [Act.put]
                  refine wpAnyZ_take (i := 9) (v := ?v9) rfl (by kernel_rfl) (by kernel_rfl) (by kernel_rfl) (by kernel_rfl) (fun _ _ _ h => h) (by rfl) ?y9 hS0 ?r9
                  case y9 => (intro w hSw; (try dsimp only at hSw); go_simp; try with_reducible rfl)
                  try simp only [Act.put]
                  refine wpAnyZ_take (i := 10) (v := ?v10) rfl (by kernel_rfl) (by kernel_rfl) (by kernel_rfl) (by kernel_rfl) (fun _ _ _ h => h) (by rfl) ?y10 hS0 ?r10
                  case y10 => (intro w hSw; (try dsimp only at hSw); go_simp; try with_reducible rfl)
                  try simp only [Act.put]
                  refine wpAnyZ_take (i := 11) (v := ?v11) rfl (by kernel_rfl) (by kernel_rfl) (by kernel_rfl) (by kernel_rfl) (fun _ _ _ h => h) (by rfl) ?y11 hS0 ?r11
                  case y11 => (intro w hSw; (try dsimp only at hSw); go_simp; try with_reducible rfl)
                  try simp only [Act.put]
                  refine wpAnyZ_take (i := 12) (v := ?v12) rfl (by kernel_rfl) (by kernel_rfl) (by kernel_rfl) (by kernel_rfl) (fun _ _ _ h => h) (by rfl) ?y12 hS0 ?r12
                  case y12 => (intro w hSw; (try dsimp only at hSw); go_simp; try with_reducible rfl)
                  try simp only [Act.put]
                  refine wpAnyZ_take (i := 13) (v := ?v13) rfl (by kernel_rfl) (by kernel_rfl) (by kernel_rfl) (by kernel_rfl) (fun _ _ _ h => h) (by rfl) ?y13 hS0 ?r13
                  case y13 => (intro w hSw; (try dsimp only at hSw); go_simp; try with_reducible rfl)
                  try simp only [Act.put]
                  clear hS0
                  refine wpAnyZ_one (i := 14) (by kernel_rfl) rfl (fun K hK => ?_)
                  go_simp
                  refine hK.out _ _ (fun _ => ?_) ?_
                  · simp (maxDischargeDepth := 8) [go_sem, *]
                  clear hK K
                  try simp only [Act.put, List.setIfInBounds_toArray, List.set_cons_zero, List.set_cons_succ]
                  refine wpAnyZ_one (i := 15) (by kernel_rfl) rfl (fun K hK => ?_)
                  refine step_append_one (k := 7) (enc := NdM.cells) (by rfl) _ _ 32 (by rfl) B 90 j36 _ 72 Tryz.underlying32 ji jz0 jz1 jz2 rfl (by decide) NdM.cells_len NdM.cells_one (.slice T.an T.N.length T.cn) T.N (by rfl) hNz.out wb.heap.size 1 ⟨⟨T.last + 1, o.id, o.srv, 0, []⟩, none, 0⟩ (by rfl) hxz.out (by unfold maxLen; omega) (by omega) hbz2 ?_
                  intro v12 w12 hown12 hgr12 hat12
                  obtain ⟨a12, c12, e12, -, -, -⟩ := recs_of_owns NdM.cells_len hown12
                  subst e12
                  have hTe := hTz.out.grown hgr12 (fun e => hnt.out e.symm)
                  have hOe := hOz2.out.grown hgr12 (fun e => hno.out e.symm)
                  have hRe := hRz2.out.grown hgr12 (fun e => hnr.out e.symm)
                  have u0 := hTe.cell (i := 0) (v := .slice T.an T.N.length T.cn) rfl
                  have u1 := hTe.cell (i := 1) (v := .slice T.ag T.G.length T.cg) rfl
                  have u2 := hTe.cell (i := 2) (v := .int .i64 (T.last + 1)) rfl
                  have u3 := hTe.cell (i := 3) (v := .int .i64 T.now) rfl
                  have v0 := hOe.cell (i := 0) (v := .int .i64 o.kd) rfl
                  have v1 := hOe.cell (i := 1) (v := .int .i64 o.id) rfl
                  have v2 := hOe.cell (i := 2) (v := .int .i64 o.srv.k) rfl
                  have v3 := hOe.cell (i := 3) (v := .int .i64 o.srv.q) rfl
                  have v4 := hOe.cell (i := 4) (v := .int .i64 o.srv.t) rfl
                  have v5 := hOe.cell (i := 5) (v := .int .i64 o.pol) rfl
                  have v6 := hOe.cell (i := 6) (v := .slice oa o.tasks.length oc) rfl
                  have v7 := hOe.cell (i := 7) (v := .int .i64 o.at_) rfl
                  have uf := fun i => hTe.free i
                  have hS7 : (fun w' => w'.cell? ⟨tb, 0, none⟩ = some (.slice T.an T.N.length T.cn) ∧ w'.cell? ⟨tb, 1, none⟩ = some (.slice T.ag T.G.length T.cg) ∧ w'.cell? ⟨tb, 2, none⟩ = some (.int .i64 (T.last + 1)) ∧ w'.cell? ⟨tb, 3, none⟩ = some (.int .i64 T.now) ∧ w'.cell? ⟨w.heap.size, 0, none⟩ = some (.int .i64 o.kd) ∧ w'.cell? ⟨w.heap.size, 1, none⟩ = some (.int .i64 o.id) ∧ w'.cell? ⟨w.heap.size, 2, none⟩ = some (.int .i64 o.srv.k) ∧ w'.cell? ⟨w.heap.size, 3, none⟩ = some (.int .i64 o.srv.q) ∧ w'.cell? ⟨w.heap.size, 4, none⟩ = some (.int .i64 o.srv.t) ∧ w'.cell? ⟨w.heap.size, 5, none⟩ = some (.int .i64 o.pol) ∧ w'.cell? ⟨w.heap.size, 6, none⟩ = some (.slice oa o.tasks.length oc) ∧ w'.cell? ⟨w.heap.size, 7, none⟩ = some (.int .i64 o.at_)) w12 := ⟨u0, u1, u2, u3, v0, v1, v2, v3, v4, v5, v6, v7⟩
                  replace hTe := Lib.hid hTe
                  replace hOe := Lib.hid hOe
                  replace hRe := Lib.hid hRe
                  replace hown12 := Lib.hid hown12
                  replace hgr12 := Lib.hid hgr12
                  replace hat12 := Lib.hid hat12
                  refine hK.out _ _ (fun _ => hS7) ?_
                  clear hK K
                  try simp only [Act.put, List.setIfInBounds_toArray]
                  refine wpAnyZ_one (i := 16) (by kernel_rfl) rfl (fun K hK => ?_)
                  go_simp
                  refine hK.out _ _ (fun _ => hS7) ?_
                  clear hK K
                  try simp only [Act.put, List.setIfInBounds_toArray, List.set_cons_zero, List.set_cons_succ]
                  refine wpAnyZ_one (i := 17) (by kernel_rfl) rfl (fun K hK => ?_)
                  go_simp
                  refine hK.out _ _ (fun _ => hS7) ?_
                  clear hK K
                  try simp only [Act.put, List.setIfInBounds_toArray, List.set_cons_zero, List.set_cons_succ]
                  refine wpAnyZ_one (i := 18) (by kernel_rfl) rfl (fun K hK => ?_)
                  clear hS7
                  go_simp
                  refine hK.out _ _ (fun h => absurd rfl h) ?_
                  clear hK K
                  try simp only [Act.put, List.setIfInBounds_toArray, List.set_cons_zero, List.set_cons_succ]
                  refine wpAnyZ_done (by kernel_rfl) ?_ _
                  refine NoPanic.normal ?_
                  obtain ⟨we, hwe⟩ : ∃ we, we = w12.setCell ⟨tb, 0, none⟩ (.slice a12 (T.N.length + 1) c12) := ⟨_, rfl⟩
                  rw [← hwe]
                  obtain ⟨x2, hx2⟩ : ∃ x2 : NdM, x2 = ⟨⟨T.last + 1, o.id, o.srv, 0, []⟩, none, 0⟩ := ⟨_, rfl⟩
                  have hN2l : (T.N ++ [x2]).length = T.N.length + 1 := by simp
                  have hown := hown12.out
                  rw [← hx2] at hown
                  have hatt := hat12.out
                  rw [← hx2] at hatt
                  have gxe : GrX [tb] w12 we := by rw [hwe]; exact (GrX.refl _ _).set (.inl (by simp)) _
                  have hW12 : OwnT B w12 ⟨T.N ++ [x2], a12, c12, T.G, T.ag, T.cg, T.last + 1, T.now⟩ := own_snoc (T := ⟨T.N, T.an, T.cn, T.G, T.ag, T.cg, T.last + 1, T.now⟩) (hWb.out.gr gbz) hown hgr12.out hatt (by rw [hx2]) (by rw [hx2]; exact ⟨RecsIn.nil _ _ _ _ _, fun _ => rfl, Nat.le_refl _, Nat.zero_le _, by simp⟩) (by show T.N.length + 1 ≤ 1000000; have := hnf.out; omega) _ _
                  have hbb : ∀ y ∈ T.N ++ [x2], ∀ ad, y.a = some ad → y.e.tasks ≠ [] → ad.block ≠ tb := fun y hy ad ha ht => by
                    rcases List.mem_append.1 hy with hy | hy
                    · exact hT10.out.b y hy ad ha ht
                    · rw [List.mem_singleton.1 hy, hx2] at ht; exact absurd rfl ht
                  have hOA : OutAt B we tb ⟨T.N ++ [x2], a12, c12, T.G, T.ag, T.cg, T.last + 1, T.now⟩ := by
                    refine ⟨?_, hW12.ghosts gxe (fun k hk hm => owns_blk hW12.n hTe.out (by decide) (by rw [List.mem_singleton.1 hm] at hk; exact hk)) (fun y hy ad ha ht hm => hbb y hy ad ha ht (List.mem_singleton.1 hm)) _ _ (owns_gx hW12.g gxe (fun k hk hm => owns_blk hW12.g hTe.out (by decide) (by rw [List.mem_singleton.1 hm] at hk; exact hk))) hW12.dg hW12.l2, hBt, hbb⟩
                    rw [hwe]
                    dsimp only [TM.row]
                    rw [hN2l]
                    exact hTe.out.set 0 _
                  have hOe2 : Blk we w.heap.size #[.int .i64 o.kd, .int .i64 o.id, .int .i64 o.srv.k, .int .i64 o.srv.q, .int .i64 o.srv.t, .int .i64 o.pol, .slice oa o.tasks.length oc, .int .i64 o.at_] 27 := by rw [hwe]; exact hOe.out.other (by show w.heap.size ≠ tb; omega) _
                  have hRe2 : Blk we (w.heap.size + 1) #[.int .i64 0, .int .i64 0] 43 := by rw [hwe]; exact hRe.out.other (by show w.heap.size + 1 ≠ tb; omega) _
                  have gWe : Gr W0 we := gxe.all ((gWb.trans gbz).grown hgr12.out (fun k hk => by have := (owns_lt hNz.out k hk).2; omega)) (fun y hy => by rw [List.mem_singleton.1 hy]; omega)
                  have hsn : Srt (T.N ++ [x2]) := srt_snoc hs.out (fun y hy => by have := hlid.out y hy; rw [hx2]; show y.e.id < T.last + 1; omega)
                  have hdr := drained_any W0 hE i0 i1 i3 ⟨T.N ++ [x2], a12, c12, T.G, T.ag, T.cg, T.last + 1, T.now⟩ we tb B hOA hB0 gWe hsn o.id hn1 hn2
                  clear u0 u1 u2 u3 v0 v1 v2 v3 v4 v5 v6 v7 uf
                  have v1 := hOe2.cell (i := 1) (v := .int .i64 o.id) rfl
                  have hgO : (Value.slice T.ag T.G.length T.cg).ownBlock ≠ some w.heap.size := owns_blk hOA.t.g hOe2 (by decide)
                  have hgR : (Value.slice T.ag T.G.length T.cg).ownBlock ≠ some (w.heap.size + 1) := owns_blk hOA.t.g hRe2 (by decide)
                  replace hwe := Lib.hid hwe
                  replace hx2 := Lib.hid hx2
                  replace hN2l := Lib.hid hN2l
                  replace hown := Lib.hid hown
                  replace hatt := Lib.hid hatt
                  replace hW12 := Lib.hid hW12
                  replace hOA := Lib.hid hOA
                  replace hOe2 := Lib.hid hOe2
                  replace hRe2 := Lib.hid hRe2
                  replace hsn := Lib.hid hsn
                  replace hdr := Lib.hid hdr
                  replace hgO := Lib.hid hgO
                  replace hgR := Lib.hid hgR
                  replace hbb := Lib.hid hbb
                  go_wp2_with fail
                  refine hdr.out.mono ?_
                  rintro e w13 ⟨rfl, T3, hT3, hT3v, hT3N, gW13, gx13⟩
                  have hins : ∀ y, y ∈ (T.ag.map (·.block)).toList → (Value.slice T.ag T.G.length T.cg).ownBlock = some y := fun y hy => by
                    cases hta : T.ag with
                    | none => rw [hta] at hy; cases hy
                    | some q => rw [hta] at hy; simp at hy; rw [hy]; rfl
                  have hR13 := hRe2.out.grx gx13 (fun hm => hgR.out (hins _ hm))
                  have hl3 : T3.last = T.last + 1 := by
                    have h1 := congrArg TreeV.last hT3v
                    have h2 : (TreeV.drained ⟨(T.N ++ [x2]).map (·.e), T.G, T.last + 1, T.now⟩ o.id).last = T.last + 1 := by unfold TreeV.drained; dsimp only; split <;> rfl
                    exact h1.trans h2
                  have c2 := hT3.o.cell (i := 2) (v := .int .i64 T3.last) rfl
                  rw [hl3] at c2
                  have r0 := hR13.cell (i := 0) (v := .int .i64 0) rfl
                  have r1 := hR13.cell (i := 1) (v := .int .i64 0) rfl
                  have rf := fun i => hR13.free i
                  replace hR13 := Lib.hid hR13
                  replace hT3 := Lib.hid hT3
                  replace hT3v := Lib.hid hT3v
                  replace hl3 := Lib.hid hl3
                  clear v1
                  go_wp2_with fail
                  have hR9 : Blk ((w13.setCell ⟨w.heap.size + 1, 0, none⟩ (.int .i64 0)).setCell ⟨w.heap.size + 1, 1, none⟩ (.int .i64 (T.last + 1))) (w.heap.size + 1) #[.int .i64 0, .int .i64 (T.last + 1)] 43 := (hR13.out.set 0 (.int .i64 0)).set 1 (.int .i64 (T.last + 1))
                  have gx9 : GrX [w.heap.size + 1] w13 ((w13.setCell ⟨w.heap.size + 1, 0, none⟩ (.int .i64 0)).setCell ⟨w.heap.size + 1, 1, none⟩ (.int .i64 (T.last + 1))) := ((GrX.refl _ _).set (.inl (by simp)) _).set (.inl (by simp)) _
                  have q0 := hR9.cell (i := 0) (v := .int .i64 0) rfl
                  have q1 := hR9.cell (i := 1) (v := .int .i64 (T.last + 1)) rfl
                  refine bodyPost_ret (v := .agg #[.int .i64 0, .int .i64 (T.last + 1)]) (by simp [results, Tryz.results97, go_sem, q0, q1]) rfl ?_
                  have hVe : V = (TreeV.drained ⟨(T.N ++ [x2]).map (·.e), T.G, T.last + 1, T.now⟩ o.id, 0, T.last + 1) := by
                    rw [hV.out]
                    unfold TreeV.create; rw [if_neg (by rw [hleg.out]; decide), hsv.out]; dsimp only; rw [if_neg (by have h1 := hpol.out; rw [hn.out] at h1; cases hf : T.v.find o.id with | none => simp | some z => rw [hf] at h1; simpa using h1), if_neg (by rw [← hd.out]; have := hdd.out; omega), if_neg (by rw [← hL.out]; intro hx; rcases hx with hx | hx; exact absurd (show 64 ≤ T.N.length by have h9 : (T.N.map (·.e)).length = T.N.length := List.length_map ..; rw [← h9]; exact hx) (by have := hnf.out; omega); have := hlf.out; omega), if_neg (by rw [← hL.out, ← hLx.out, hk.out]; simp)]
                    rw [List.map_append, hx2.out]
                    rfl
                  have hTB : ∀ y, y ∈ [w.heap.size + 1] → ¬ treeB tb T3 y := fun y hy ht => by
                    rw [List.mem_singleton.1 hy] at ht
                    rcases ht with ht | ht | ht | ⟨z, hz, ad, ha, htt, hab⟩
                    · omega
                    · exact owns_blk hT3.out.t.n hR13.out (by decide) ht
                    · exact owns_blk hT3.out.t.g hR13.out (by decide) ht
                    · rw [hT3N] at hz
                      rcases List.mem_append.1 hz with hz | hz
                      · have := hlt.out ad.block (.inr (.inr (.inr ⟨z, hz, ad, ha, htt, rfl⟩))); omega
                      · rw [List.mem_singleton.1 hz, hx2.out] at htt; exact absurd rfl htt
                  rw [hVe]
                  exact ⟨rfl, T3, hT3.out.away gx9 hTB, hT3v.out, gx9.all gW13 (fun y hy => by rw [List.mem_singleton.1 hy]; omega)⟩
        · have tp : (n.pol != 0) = true := by simpa using hpol
          replace hpol := Lib.hid hpol
          go_wp2_with fail
          refine (refused_any 3 _).mono ?_
          rintro e wz ⟨rfl, gz⟩
          have hRz := hR6.out.gr gz
          have hTz := hT6.out.gr gz
          have gWz := gW6.trans gz
          have r0 := hRz.cell (i := 0) (v := .int .i64 0) rfl
          have r1 := hRz.cell (i := 1) (v := .int .i64 0) rfl
          have rf := fun i => hRz.free i
          replace hRz := Lib.hid hRz
          replace hTz := Lib.hid hTz
          go_wp2_with fail
          have hR9 : Blk ((wz.setCell ⟨w.heap.size + 1, 0, none⟩ (.int .i64 3)).setCell ⟨w.heap.size + 1, 1, none⟩ (.int .i64 0)) (w.heap.size + 1) #[.int .i64 3, .int .i64 0] 43 := (hRz.out.set 0 (.int .i64 3)).set 1 (.int .i64 0)
          have gx : GrX [w.heap.size + 1] wz ((wz.setCell ⟨w.heap.size + 1, 0, none⟩ (.int .i64 3)).setCell ⟨w.heap.size + 1, 1, none⟩ (.int .i64 0)) := ((GrX.refl _ _).set (.inl (by simp)) _).set (.inl (by simp)) _
          have q0 := hR9.cell (i := 0) (v := .int .i64 3) rfl
          have q1 := hR9.cell (i := 1) (v := .int .i64 0) rfl
          refine bodyPost_ret (v := .agg #[.int .i64 3, .int .i64 0]) (by simp [results, Tryz.results97, go_sem, q0, q1]) rfl ?_
          have hVe : V = (T.v, 3, 0) := by rw [hV.out]; unfold TreeV.create; rw [if_neg (by rw [hleg.out]; decide), hsv.out]; dsimp only; rw [if_pos (by have h1 := hpol.out; rw [hn.out] at h1; cases hf : T.v.find o.id with | none => rw [hf] at h1; exact absurd rfl h1 | some z => rw [hf] at h1; exact h1)]
          rw [hVe]
          exact ⟨rfl, T, hTz.out.away gx (fun y hy ht => by have := hlt.out y ht; simp at hy; omega), rfl, gx.all gWz (fun y hy => by simp at hy; have := hg0z; omega)⟩
end Go.Proofs.YtglfdnfojpdkjaaGreatDoor
