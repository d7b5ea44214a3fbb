/- tree.bind. Printed by gen_t23.py. -/
import Derived.Test.YtglfdnfojpdkjaaGreatDoorJ23
import Derived.Test.YtglfdnfojpdkjaaGreatDoorJ30
namespace Go.Proofs.YtglfdnfojpdkjaaGreatDoor
open Go.RowKit

/-- A node's policy, written over. -/
theorem own_pol {B : Nat} {w : World} {T : TM} {nb i : Nat} {x : NdM} (h : OwnT B w T) (hnb : T.an = some ⟨nb, 0, none⟩) (hx : T.N[i]? = some x) (p : Int) {w' : World} (hw : w' = w.setCell ⟨nb, i * 7 + 5, none⟩ (.int .i64 p)) : GrX [nb] w w' ∧ OwnT B w' ⟨T.N.set i ⟨{x.e with pol := p}, x.a, x.c⟩, T.an, T.cn, T.G, T.ag, T.cg, T.last, T.now⟩ := by
  have g : GrX [nb] w w' := by rw [hw]; exact (GrX.refl _ _).set (.inl (by simp)) _
  have hm := List.mem_of_getElem? hx
  have hob : (Value.slice T.an T.N.length T.cn).ownBlock = some nb := by rw [hnb]; rfl
  have hd : ∀ ad, x.a = some ad → x.e.tasks ≠ [] → ad.block ∉ [nb] := fun ad ha ht hm2 => h.d x hm ad ha ht (by rw [hob, List.mem_singleton.1 hm2])
  refine ⟨g, own_setN h hnb g ?_ ((h.k x hm).but g hd) (fun ad ha ht => ⟨h.d x hm ad ha ht, h.dg x hm ad ha ht, fun o => by rw [g.frozen ((h.k x hm).1.1.lt ha ht) (hd ad ha ht)]; exact h.f x hm ad ha ht o⟩)⟩
  have h0 := h.n
  rw [hnb] at h0 ⊢
  have h3 := owns_set h0 (i * 7 + 5) (.int .i64 p)
  rw [hw]
  rw [flat_set NdM.cells_len hx (j := 5) (by decide) (v := .int .i64 p) (y := ⟨{x.e with pol := p}, x.a, x.c⟩) rfl] at h3
  exact h3
/-- A node's tasks, written over. -/
theorem own_tsk {B : Nat} {w : World} {T : TM} {nb i : Nat} {x : NdM} (h : OwnT B w T) (hnb : T.an = some ⟨nb, 0, none⟩) (hx : T.N[i]? = some x) (l : List Tsk) (a : Option Addr) (c : Nat) (hk : (⟨{x.e with tasks := l}, a, c⟩ : NdM).ok (fun b => B ≤ b) w) (hq : ∀ ad, a = some ad → l ≠ [] → nb ≠ ad.block ∧ (Value.slice T.ag T.G.length T.cg).ownBlock ≠ some ad.block ∧ ∀ o, w.frozen? ⟨ad.block, o, none⟩ = false) {w' : World} (hw : w' = w.setCell ⟨nb, i * 7 + 6, none⟩ (.slice a l.length c)) : GrX [nb] w w' ∧ OwnT B w' ⟨T.N.set i ⟨{x.e with tasks := l}, a, c⟩, T.an, T.cn, T.G, T.ag, T.cg, T.last, T.now⟩ := by
  have g : GrX [nb] w w' := by rw [hw]; exact (GrX.refl _ _).set (.inl (by simp)) _
  have hob : (Value.slice T.an T.N.length T.cn).ownBlock = some nb := by rw [hnb]; rfl
  have hd : ∀ ad, a = some ad → l ≠ [] → ad.block ∉ [nb] := fun ad ha ht hm2 => (hq ad ha ht).1 (List.mem_singleton.1 hm2).symm
  refine ⟨g, own_setN h hnb g ?_ (hk.but g hd) (fun ad ha ht => ⟨fun e => (hq ad ha ht).1 (by rw [hob] at e; exact Option.some.inj e), (hq ad ha ht).2.1, fun o => by rw [g.frozen (hk.1.1.lt ha ht) (hd ad ha ht)]; exact (hq ad ha ht).2.2 o⟩)⟩
  have h0 := h.n
  rw [hnb] at h0 ⊢
  have h3 := owns_set h0 (i * 7 + 6) (.slice a l.length c)
  rw [hw]
  rw [flat_set NdM.cells_len hx (j := 6) (by decide) (v := .slice a l.length c) (y := ⟨{x.e with tasks := l}, a, c⟩) rfl] at h3
  exact h3
set_option maxRecDepth 100000 in
set_option maxHeartbeats 6400000 in
theorem bind_no {G : List Nat} {E : Nat → Addr} (W0 : World) (hE : EAt G E W0) (i4 : 6 ∈ G) (T : TM) (w : World) (tb B : Nat) (h : OutAt B w tb T) (g0 : Gr W0 w) (hs : Srt T.N) (o : OrdV) (oa : Option Addr) (oc : Nat) (hta : RecsAt 4 Tsk.cells w oa o.tasks) (hom : o.tasks.length * 32 ≤ 140737488351232) (hgo : guestOk o.pol o.tasks = false) :
    Calls Tryz.prog 100 #[.pointer (some ⟨tb, 0, none⟩), .agg #[.int .i64 o.kd, .int .i64 o.id, .int .i64 o.srv.k, .int .i64 o.srv.q, .int .i64 o.srv.t, .int .i64 o.pol, .slice oa o.tasks.length oc, .int .i64 o.at_]] w (OrdP B W0 tb (T.v.bind o)) := by
  obtain ⟨V, hV⟩ : ∃ V, V = T.v.bind o := ⟨_, rfl⟩
  rw [← hV]
  obtain ⟨W, hW⟩ : ∃ W, W = (w.alloc (.cells #[.int .i64 o.kd, .int .i64 o.id, .int .i64 o.srv.k, .int .i64 o.srv.q, .int .i64 o.srv.t, .int .i64 o.pol, .slice oa o.tasks.length oc, .int .i64 o.at_] 27)).alloc (.cells #[.int .i64 0, .int .i64 0] 43) := ⟨_, rfl⟩
  have gA : Gr w W := by rw [hW]; exact ((Gr.refl w).alloc _).alloc _
  have hOW : Blk W w.heap.size #[.int .i64 o.kd, .int .i64 o.id, .int .i64 o.srv.k, .int .i64 o.srv.q, .int .i64 o.srv.t, .int .i64 o.pol, .slice oa o.tasks.length oc, .int .i64 o.at_] 27 := by rw [hW]; exact (Blk.new w _ _).alloc _
  have hRW : Blk W (w.heap.size + 1) #[.int .i64 0, .int .i64 0] 43 := by
    rw [hW]
    have := Blk.new (w.alloc (.cells #[.int .i64 o.kd, .int .i64 o.id, .int .i64 o.srv.k, .int .i64 o.srv.q, .int .i64 o.srv.t, .int .i64 o.pol, .slice oa o.tasks.length oc, .int .i64 o.at_] 27)) #[.int .i64 0, .int .i64 0] 43
    rw [World.size_alloc] at this
    exact this
  have hTW := h.gr gA
  have gWW := g0.trans gA
  have hg0z := g0.size
  have hWz : W.heap.size = w.heap.size + 2 := by rw [hW]; simp
  have hlt : ∀ y, treeB tb T y → y < w.heap.size := fun y hy => treeB_lt h hy
  replace hW := Lib.hid hW
  replace hOW := Lib.hid hOW
  replace hRW := Lib.hid hRW
  replace hTW := Lib.hid hTW
  replace hlt := Lib.hid hlt
  replace h := Lib.hid h
  replace hV := Lib.hid hV
  replace hWz := Lib.hid hWz
  replace hs := Lib.hid hs
  have hmm : o.tasks.length ≤ maxLen := by unfold maxLen; omega
  have htW := (RecsIn.grx (K := Any) ⟨hta, fun _ _ _ => trivial⟩ (gA.x []) (fun _ h => by cases h)).1
  have hck := checkGuest_no o.pol oa o.tasks oc W (hE.gr gWW) i4 (recs_tsks htW) hmm hgo
  replace hck := Lib.hid hck
  replace htW := Lib.hid htW
  replace hta := Lib.hid hta
  replace hgo := Lib.hid hgo
  have c0 := hTW.out.o.cell (i := 0) (v := .slice T.an T.N.length T.cn) rfl
  have c1 := hTW.out.o.cell (i := 1) (v := .slice T.ag T.G.length T.cg) rfl
  have c2 := hTW.out.o.cell (i := 2) (v := .int .i64 T.last) rfl
  have c3 := hTW.out.o.cell (i := 3) (v := .int .i64 T.now) rfl
  have o0 := hOW.out.cell (i := 0) (v := .int .i64 o.kd) rfl
  have o1 := hOW.out.cell (i := 1) (v := .int .i64 o.id) rfl
  have o2 := hOW.out.cell (i := 2) (v := .int .i64 o.srv.k) rfl
  have o3 := hOW.out.cell (i := 3) (v := .int .i64 o.srv.q) rfl
  have o4 := hOW.out.cell (i := 4) (v := .int .i64 o.srv.t) rfl
  have o5 := hOW.out.cell (i := 5) (v := .int .i64 o.pol) rfl
  have o6 := hOW.out.cell (i := 6) (v := .slice oa o.tasks.length oc) rfl
  have o7 := hOW.out.cell (i := 7) (v := .int .i64 o.at_) rfl
  go_enter Tryz.func100, Tryz.ntmps100
  go_upto_region 1 with fail
  rw [← hW.out]
  go_wp2_with fail
  refine hck.out.mono ?_
  rintro e w1 ⟨rfl, g1⟩
  clear c0 c1 c2 c3 o0 o1 o2 o3 o4 o5 o6 o7
  have hT1 := hTW.out.gr g1
  have zt1 := hT1.o.lt
  have hO1 := hOW.out.gr g1
  have zo1 := hO1.lt
  have hR1 := hRW.out.gr g1
  have gW1 := gWW.trans g1
  replace hT1 := Lib.hid hT1
  replace hO1 := Lib.hid hO1
  replace hR1 := Lib.hid hR1
  go_wp2_with fail
  refine (refused_any 8 _).mono ?_
  rintro e wz ⟨rfl, gz⟩
  have hRz := hR1.out.gr gz
  have hTz := hT1.out.gr gz
  have gWz := gW1.trans gz
  have r0 := hRz.cell (i := 0) (v := .int .i64 0) rfl
  have r1 := hRz.cell (i := 1) (v := .int .i64 0) rfl
  have rf := fun i => hRz.free i
  replace hRz := Lib.hid hRz
  replace hTz := Lib.hid hTz
  go_wp2_with fail
  have hR9 : Blk ((wz.setCell ⟨w.heap.size + 1, 0, none⟩ (.int .i64 8)).setCell ⟨w.heap.size + 1, 1, none⟩ (.int .i64 0)) (w.heap.size + 1) #[.int .i64 8, .int .i64 0] 43 := (hRz.out.set 0 (.int .i64 8)).set 1 (.int .i64 0)
  have gx : GrX [w.heap.size + 1] wz ((wz.setCell ⟨w.heap.size + 1, 0, none⟩ (.int .i64 8)).setCell ⟨w.heap.size + 1, 1, none⟩ (.int .i64 0)) := ((GrX.refl _ _).set (.inl (by simp)) _).set (.inl (by simp)) _
  have q0 := hR9.cell (i := 0) (v := .int .i64 8) rfl
  have q1 := hR9.cell (i := 1) (v := .int .i64 0) rfl
  refine bodyPost_ret (v := .agg #[.int .i64 8, .int .i64 0]) (by simp [results, Tryz.results100, go_sem, q0, q1]) rfl ?_
  have hVe : V = (T.v, 8, 0) := by rw [hV.out]; unfold TreeV.bind; rw [if_pos hgo.out]
  rw [hVe]
  exact ⟨rfl, T, hTz.out.away gx (fun y hy ht => by have := hlt.out y ht; simp at hy; omega), rfl, gx.all gWz (fun y hy => by simp at hy; have := hg0z; omega)⟩
set_option maxRecDepth 100000 in
set_option maxHeartbeats 12800000 in
theorem bind_ok {G : List Nat} {E : Nat → Addr} (W0 : World) (hE : EAt G E W0) (i0 : 4 ∈ G) (i1 : 5 ∈ G) (i4 : 6 ∈ G) (T : TM) (w : World) (tb B : Nat) (h : OutAt B w tb T) (hB0 : W0.heap.size ≤ B) (g0 : Gr W0 w) (hs : Srt T.N) (o : OrdV) (oa : Option Addr) (oc : Nat) (hta : RecsAt 4 Tsk.cells w oa o.tasks) (hoc : oa = none → oc = 0) (hto : ∀ ad, oa = some ad → o.tasks ≠ [] → ad.block < B) (hom : o.tasks.length * 32 ≤ 140737488351232) (hgo : guestOk o.pol o.tasks = true) :
    Calls Tryz.prog 100 #[.pointer (some ⟨tb, 0, none⟩), .agg #[.int .i64 o.kd, .int .i64 o.id, .int .i64 o.srv.k, .int .i64 o.srv.q, .int .i64 o.srv.t, .int .i64 o.pol, .slice oa o.tasks.length oc, .int .i64 o.at_]] w (OrdP B W0 tb (T.v.bind o)) := by
  obtain ⟨V, hV⟩ : ∃ V, V = T.v.bind o := ⟨_, rfl⟩
  rw [← hV]
  obtain ⟨W, hW⟩ : ∃ W, W = (w.alloc (.cells #[.int .i64 o.kd, .int .i64 o.id, .int .i64 o.srv.k, .int .i64 o.srv.q, .int .i64 o.srv.t, .int .i64 o.pol, .slice oa o.tasks.length oc, .int .i64 o.at_] 27)).alloc (.cells #[.int .i64 0, .int .i64 0] 43) := ⟨_, rfl⟩
  have gA : Gr w W := by rw [hW]; exact ((Gr.refl w).alloc _).alloc _
  have hOW : Blk W w.heap.size #[.int .i64 o.kd, .int .i64 o.id, .int .i64 o.srv.k, .int .i64 o.srv.q, .int .i64 o.srv.t, .int .i64 o.pol, .slice oa o.tasks.length oc, .int .i64 o.at_] 27 := by rw [hW]; exact (Blk.new w _ _).alloc _
  have hRW : Blk W (w.heap.size + 1) #[.int .i64 0, .int .i64 0] 43 := by
    rw [hW]
    have := Blk.new (w.alloc (.cells #[.int .i64 o.kd, .int .i64 o.id, .int .i64 o.srv.k, .int .i64 o.srv.q, .int .i64 o.srv.t, .int .i64 o.pol, .slice oa o.tasks.length oc, .int .i64 o.at_] 27)) #[.int .i64 0, .int .i64 0] 43
    rw [World.size_alloc] at this
    exact this
  have hTW := h.gr gA
  have gWW := g0.trans gA
  have hg0z := g0.size
  have hWz : W.heap.size = w.heap.size + 2 := by rw [hW]; simp
  have hlt : ∀ y, treeB tb T y → y < w.heap.size := fun y hy => treeB_lt h hy
  replace hW := Lib.hid hW
  replace hOW := Lib.hid hOW
  replace hRW := Lib.hid hRW
  replace hTW := Lib.hid hTW
  replace hlt := Lib.hid hlt
  replace h := Lib.hid h
  replace hV := Lib.hid hV
  replace hWz := Lib.hid hWz
  replace hs := Lib.hid hs
  have hmm : o.tasks.length ≤ maxLen := by unfold maxLen; omega
  have htW := (RecsIn.grx (K := Any) ⟨hta, fun _ _ _ => trivial⟩ (gA.x []) (fun _ h => by cases h)).1
  have hck := checkGuest_yes o.pol oa o.tasks oc W (recs_tsks htW) hgo
  replace hck := Lib.hid hck
  replace htW := Lib.hid htW
  replace hta := Lib.hid hta
  replace hgo := Lib.hid hgo
  replace hoc := Lib.hid hoc
  replace hto := Lib.hid hto
  have c0 := hTW.out.o.cell (i := 0) (v := .slice T.an T.N.length T.cn) rfl
  have c1 := hTW.out.o.cell (i := 1) (v := .slice T.ag T.G.length T.cg) rfl
  have c2 := hTW.out.o.cell (i := 2) (v := .int .i64 T.last) rfl
  have c3 := hTW.out.o.cell (i := 3) (v := .int .i64 T.now) rfl
  have o0 := hOW.out.cell (i := 0) (v := .int .i64 o.kd) rfl
  have o1 := hOW.out.cell (i := 1) (v := .int .i64 o.id) rfl
  have o2 := hOW.out.cell (i := 2) (v := .int .i64 o.srv.k) rfl
  have o3 := hOW.out.cell (i := 3) (v := .int .i64 o.srv.q) rfl
  have o4 := hOW.out.cell (i := 4) (v := .int .i64 o.srv.t) rfl
  have o5 := hOW.out.cell (i := 5) (v := .int .i64 o.pol) rfl
  have o6 := hOW.out.cell (i := 6) (v := .slice oa o.tasks.length oc) rfl
  have o7 := hOW.out.cell (i := 7) (v := .int .i64 o.at_) rfl
  go_enter Tryz.func100, Tryz.ntmps100
  go_upto_region 1 with fail
  rw [← hW.out]
  go_wp2_with fail
  refine hck.out.mono ?_
  rintro e w1 ⟨rfl, g1⟩
  clear c0 c1 c2 c3 o0 o1 o2 o3 o4 o5 o6 o7
  have hT1 := hTW.out.gr g1
  have zt1 := hT1.o.lt
  have hO1 := hOW.out.gr g1
  have zo1 := hO1.lt
  have hR1 := hRW.out.gr g1
  have gW1 := gWW.trans g1
  replace hT1 := Lib.hid hT1
  replace hO1 := Lib.hid hO1
  replace hR1 := Lib.hid hR1
  have c0 := hT1.out.o.cell (i := 0) (v := .slice T.an T.N.length T.cn) rfl
  have c1 := hT1.out.o.cell (i := 1) (v := .slice T.ag T.G.length T.cg) rfl
  have c2 := hT1.out.o.cell (i := 2) (v := .int .i64 T.last) rfl
  have c3 := hT1.out.o.cell (i := 3) (v := .int .i64 T.now) rfl
  have o0 := hO1.out.cell (i := 0) (v := .int .i64 o.kd) rfl
  have o1 := hO1.out.cell (i := 1) (v := .int .i64 o.id) rfl
  have o2 := hO1.out.cell (i := 2) (v := .int .i64 o.srv.k) rfl
  have o3 := hO1.out.cell (i := 3) (v := .int .i64 o.srv.q) rfl
  have o4 := hO1.out.cell (i := 4) (v := .int .i64 o.srv.t) rfl
  have o5 := hO1.out.cell (i := 5) (v := .int .i64 o.pol) rfl
  have o6 := hO1.out.cell (i := 6) (v := .slice oa o.tasks.length oc) rfl
  have o7 := hO1.out.cell (i := 7) (v := .int .i64 o.at_) rfl
  obtain ⟨Z, hZ⟩ : ∃ Z, Z = T.v.loose o.id := ⟨_, rfl⟩
  have hls := loose_any T o.id w1 tb B hT1.out hs.out
  replace hZ := Lib.hid hZ
  replace hls := Lib.hid hls
  go_wp2_with fail
  refine hls.out.mono ?_
  rintro e w2 ⟨g2, hq⟩
  rw [← hZ.out] at hq
  clear c0 c1 c2 c3 o0 o1 o2 o3 o4 o5 o6 o7
  have hT2 := hT1.out.gr g2
  have zt2 := hT2.o.lt
  have hO2 := hO1.out.gr g2
  have zo2 := hO2.lt
  have hR2 := hR1.out.gr g2
  have gW2 := gW1.trans g2
  replace hT2 := Lib.hid hT2
  replace hO2 := Lib.hid hO2
  replace hR2 := Lib.hid hR2
  rcases hq with ⟨hz, rfl⟩ | ⟨hz, nb, i, x, hnb, hx, hid, rfl⟩
  · have tz : (Z != 0) = true := by simpa using hz
    replace hz := Lib.hid hz
    go_wp2_with fail
    refine (refused_any Z _).mono ?_
    rintro e wz ⟨rfl, gz⟩
    have hRz := hR2.out.gr gz
    have hTz := hT2.out.gr gz
    have gWz := gW2.trans gz
    have r0 := hRz.cell (i := 0) (v := .int .i64 0) rfl
    have r1 := hRz.cell (i := 1) (v := .int .i64 0) rfl
    have rf := fun i => hRz.free i
    replace hRz := Lib.hid hRz
    replace hTz := Lib.hid hTz
    go_wp2_with fail
    have hR9 : Blk ((wz.setCell ⟨w.heap.size + 1, 0, none⟩ (.int .i64 Z)).setCell ⟨w.heap.size + 1, 1, none⟩ (.int .i64 0)) (w.heap.size + 1) #[.int .i64 Z, .int .i64 0] 43 := (hRz.out.set 0 (.int .i64 Z)).set 1 (.int .i64 0)
    have gx : GrX [w.heap.size + 1] wz ((wz.setCell ⟨w.heap.size + 1, 0, none⟩ (.int .i64 Z)).setCell ⟨w.heap.size + 1, 1, none⟩ (.int .i64 0)) := ((GrX.refl _ _).set (.inl (by simp)) _).set (.inl (by simp)) _
    have q0 := hR9.cell (i := 0) (v := .int .i64 Z) rfl
    have q1 := hR9.cell (i := 1) (v := .int .i64 0) rfl
    refine bodyPost_ret (v := .agg #[.int .i64 Z, .int .i64 0]) (by simp [results, Tryz.results100, go_sem, q0, q1]) rfl ?_
    have hVe : V = (T.v, Z, 0) := by rw [hV.out]; unfold TreeV.bind; rw [if_neg (by rw [hgo.out]; decide), if_pos (by rw [← hZ.out]; exact hz.out), hZ.out]
    rw [hVe]
    exact ⟨rfl, T, hTz.out.away gx (fun y hy ht => by have := hlt.out y ht; simp at hy; omega), rfl, gx.all gWz (fun y hy => by simp at hy; have := hg0z; omega)⟩
  · have hfx := find_yes hs.out hx hid
    replace hnb := Lib.hid hnb
    replace hx := Lib.hid hx
    replace hid := Lib.hid hid
    replace hz := Lib.hid hz
    replace hfx := Lib.hid hfx
    obtain ⟨kz, k0, k1, k2, k3, k4, k5, k6⟩ := nd_at hT2.out.t hnb.out hx.out
    by_cases hpol : x.e.pol = 0
    · have tp : (x.e.pol != 0) = false := by simpa using hpol
      replace hpol := Lib.hid hpol
      have c0 := hT2.out.o.cell (i := 0) (v := .slice T.an T.N.length T.cn) rfl
      have c1 := hT2.out.o.cell (i := 1) (v := .slice T.ag T.G.length T.cg) rfl
      have c2 := hT2.out.o.cell (i := 2) (v := .int .i64 T.last) rfl
      have c3 := hT2.out.o.cell (i := 3) (v := .int .i64 T.now) rfl
      have o0 := hO2.out.cell (i := 0) (v := .int .i64 o.kd) rfl
      have o1 := hO2.out.cell (i := 1) (v := .int .i64 o.id) rfl
      have o2 := hO2.out.cell (i := 2) (v := .int .i64 o.srv.k) rfl
      have o3 := hO2.out.cell (i := 3) (v := .int .i64 o.srv.q) rfl
      have o4 := hO2.out.cell (i := 4) (v := .int .i64 o.srv.t) rfl
      have o5 := hO2.out.cell (i := 5) (v := .int .i64 o.pol) rfl
      have o6 := hO2.out.cell (i := 6) (v := .slice oa o.tasks.length oc) rfl
      have o7 := hO2.out.cell (i := 7) (v := .int .i64 o.at_) rfl
      have gd2 : Gr w2 w2.drew := (Gr.refl w2).drew
      have gW2d := gW2.trans gd2
      have g12 := (g1.trans g2).trans gd2
      have htd := (RecsIn.grx (K := Any) ⟨htW.out, fun _ _ _ => trivial⟩ (g12.x []) (fun _ h => by cases h)).1
      have hgs := guest_all x.e.srv o.pol oa o.tasks oc w2.drew (hE.gr gW2d) i0 i1 i4 (recs_tsks htd) hmm
      replace htd := Lib.hid htd
      cases hk : guestErr x.e.srv o.pol o.tasks with
      | some ge =>
        rw [hk] at hgs
        have hgt : errV E (some ge) = (.iface 258 (.pointer (some (E ge)))) := rfl
        rw [hgt] at hgs
        replace hgs := Lib.hid hgs
        replace hk := Lib.hid hk
        go_upto_region 8 with fail
        go_region_held3 (fun w' => w'.cell? ⟨tb, 0, none⟩ = some (.slice T.an T.N.length T.cn) ∧ w'.cell? ⟨tb, 1, none⟩ = some (.slice T.ag T.G.length T.cg) ∧ w'.cell? ⟨tb, 2, none⟩ = some (.int .i64 T.last) ∧ w'.cell? ⟨tb, 3, none⟩ = some (.int .i64 T.now) ∧ w'.cell? ⟨w.heap.size, 0, none⟩ = some (.int .i64 o.kd) ∧ w'.cell? ⟨w.heap.size, 1, none⟩ = some (.int .i64 o.id) ∧ w'.cell? ⟨w.heap.size, 2, none⟩ = some (.int .i64 o.srv.k) ∧ w'.cell? ⟨w.heap.size, 3, none⟩ = some (.int .i64 o.srv.q) ∧ w'.cell? ⟨w.heap.size, 4, none⟩ = some (.int .i64 o.srv.t) ∧ w'.cell? ⟨w.heap.size, 5, none⟩ = some (.int .i64 o.pol) ∧ w'.cell? ⟨w.heap.size, 6, none⟩ = some (.slice oa o.tasks.length oc) ∧ w'.cell? ⟨w.heap.size, 7, none⟩ = some (.int .i64 o.at_) ∧ w'.cell? ⟨nb, i * 7, none⟩ = some (.int .i64 x.e.id) ∧ w'.cell? ⟨nb, i * 7 + 1, none⟩ = some (.int .i64 x.e.par) ∧ w'.cell? ⟨nb, i * 7 + 2, none⟩ = some (.int .i64 x.e.srv.k) ∧ w'.cell? ⟨nb, i * 7 + 3, none⟩ = some (.int .i64 x.e.srv.q) ∧ w'.cell? ⟨nb, i * 7 + 4, none⟩ = some (.int .i64 x.e.srv.t) ∧ w'.cell? ⟨nb, i * 7 + 5, none⟩ = some (.int .i64 x.e.pol) ∧ w'.cell? ⟨nb, i * 7 + 6, none⟩ = some (.slice x.a x.e.tasks.length x.c)) (simp (maxDischargeDepth := 8) [go_sem, *])
          (first
            | (go_at_call 123; (with_reducible refine hgs.out.mono ?_); rintro e w3 ⟨rfl, gc⟩; have gq : Gr w2 w3 := gd2.trans gc; have gq23 := Lib.hid gq; have hT3 := hT2.out.gr gq; have zt3 := hT3.o.lt; have hO3 := hO2.out.gr gq; have zo3 := hO3.lt; have hR3 := hR2.out.gr gq; have gW3 := gW2.trans gq; replace hT3 := Lib.hid hT3; replace hO3 := Lib.hid hO3; replace hR3 := Lib.hid hR3; have m0 := hT3.out.o.cell (i := 0) (v := .slice T.an T.N.length T.cn) rfl; have m1 := hT3.out.o.cell (i := 1) (v := .slice T.ag T.G.length T.cg) rfl; have m2 := hT3.out.o.cell (i := 2) (v := .int .i64 T.last) rfl; have m3 := hT3.out.o.cell (i := 3) (v := .int .i64 T.now) rfl; have n0 := hO3.out.cell (i := 0) (v := .int .i64 o.kd) rfl; have n1 := hO3.out.cell (i := 1) (v := .int .i64 o.id) rfl; have n2 := hO3.out.cell (i := 2) (v := .int .i64 o.srv.k) rfl; have n3 := hO3.out.cell (i := 3) (v := .int .i64 o.srv.q) rfl; have n4 := hO3.out.cell (i := 4) (v := .int .i64 o.srv.t) rfl; have n5 := hO3.out.cell (i := 5) (v := .int .i64 o.pol) rfl; have n6 := hO3.out.cell (i := 6) (v := .slice oa o.tasks.length oc) rfl; have n7 := hO3.out.cell (i := 7) (v := .int .i64 o.at_) rfl; obtain ⟨knz, kn0, kn1, kn2, kn3, kn4, kn5, kn6⟩ := nd_at hT3.out.t hnb.out hx.out)
            | fail)
        clear c0 c1 c2 c3 o0 o1 o2 o3 o4 o5 o6 o7
        clear m0 m1 m2 m3 n0 n1 n2 n3 n4 n5 n6 n7
        clear kz k0 k1 k2 k3 k4 k5 k6
        clear knz kn0 kn1 kn2 kn3 kn4 kn5 kn6
        clear tp
        go_wp2_with fail
        refine (refused_any 4 _).mono ?_
        rintro e wz ⟨rfl, gz⟩
        have hRz := hR3.out.gr gz
        have hTz := hT3.out.gr gz
        have gWz := gW3.trans gz
        have r0 := hRz.cell (i := 0) (v := .int .i64 0) rfl
        have r1 := hRz.cell (i := 1) (v := .int .i64 0) rfl
        have rf := fun i => hRz.free i
        replace hRz := Lib.hid hRz
        replace hTz := Lib.hid hTz
        go_wp2_with fail
        have hR9 : Blk ((wz.setCell ⟨w.heap.size + 1, 0, none⟩ (.int .i64 4)).setCell ⟨w.heap.size + 1, 1, none⟩ (.int .i64 0)) (w.heap.size + 1) #[.int .i64 4, .int .i64 0] 43 := (hRz.out.set 0 (.int .i64 4)).set 1 (.int .i64 0)
        have gx : GrX [w.heap.size + 1] wz ((wz.setCell ⟨w.heap.size + 1, 0, none⟩ (.int .i64 4)).setCell ⟨w.heap.size + 1, 1, none⟩ (.int .i64 0)) := ((GrX.refl _ _).set (.inl (by simp)) _).set (.inl (by simp)) _
        have q0 := hR9.cell (i := 0) (v := .int .i64 4) rfl
        have q1 := hR9.cell (i := 1) (v := .int .i64 0) rfl
        refine bodyPost_ret (v := .agg #[.int .i64 4, .int .i64 0]) (by simp [results, Tryz.results100, go_sem, q0, q1]) rfl ?_
        have hVe : V = (T.v, 4, 0) := by rw [hV.out]; unfold TreeV.bind; rw [if_neg (by rw [hgo.out]; decide), if_neg (by rw [← hZ.out, hz.out]; simp), hfx.out]; dsimp only; rw [if_neg (by rw [hpol.out]; simp), if_pos (by rw [hk.out]; simp)]
        rw [hVe]
        exact ⟨rfl, T, hTz.out.away gx (fun y hy ht => by have := hlt.out y ht; simp at hy; omega), rfl, gx.all gWz (fun y hy => by simp at hy; have := hg0z; omega)⟩
      | none =>
        rw [hk] at hgs
        have hgt : errV E (none) = (.nilIface) := rfl
        rw [hgt] at hgs
        replace hgs := Lib.hid hgs
        replace hk := Lib.hid hk
        go_upto_region 8 with fail
        go_region_held3 (fun w' => w'.cell? ⟨tb, 0, none⟩ = some (.slice T.an T.N.length T.cn) ∧ w'.cell? ⟨tb, 1, none⟩ = some (.slice T.ag T.G.length T.cg) ∧ w'.cell? ⟨tb, 2, none⟩ = some (.int .i64 T.last) ∧ w'.cell? ⟨tb, 3, none⟩ = some (.int .i64 T.now) ∧ w'.cell? ⟨w.heap.size, 0, none⟩ = some (.int .i64 o.kd) ∧ w'.cell? ⟨w.heap.size, 1, none⟩ = some (.int .i64 o.id) ∧ w'.cell? ⟨w.heap.size, 2, none⟩ = some (.int .i64 o.srv.k) ∧ w'.cell? ⟨w.heap.size, 3, none⟩ = some (.int .i64 o.srv.q) ∧ w'.cell? ⟨w.heap.size, 4, none⟩ = some (.int .i64 o.srv.t) ∧ w'.cell? ⟨w.heap.size, 5, none⟩ = some (.int .i64 o.pol) ∧ w'.cell? ⟨w.heap.size, 6, none⟩ = some (.slice oa o.tasks.length oc) ∧ w'.cell? ⟨w.heap.size, 7, none⟩ = some (.int .i64 o.at_) ∧ w'.cell? ⟨nb, i * 7, none⟩ = some (.int .i64 x.e.id) ∧ w'.cell? ⟨nb, i * 7 + 1, none⟩ = some (.int .i64 x.e.par) ∧ w'.cell? ⟨nb, i * 7 + 2, none⟩ = some (.int .i64 x.e.srv.k) ∧ w'.cell? ⟨nb, i * 7 + 3, none⟩ = some (.int .i64 x.e.srv.q) ∧ w'.cell? ⟨nb, i * 7 + 4, none⟩ = some (.int .i64 x.e.srv.t) ∧ w'.cell? ⟨nb, i * 7 + 5, none⟩ = some (.int .i64 x.e.pol) ∧ w'.cell? ⟨nb, i * 7 + 6, none⟩ = some (.slice x.a x.e.tasks.length x.c)) (simp (maxDischargeDepth := 8) [go_sem, *])
          (first
            | (go_at_call 123; (with_reducible refine hgs.out.mono ?_); rintro e w3 ⟨rfl, gc⟩; have gq : Gr w2 w3 := gd2.trans gc; have gq23 := Lib.hid gq; have hT3 := hT2.out.gr gq; have zt3 := hT3.o.lt; have hO3 := hO2.out.gr gq; have zo3 := hO3.lt; have hR3 := hR2.out.gr gq; have gW3 := gW2.trans gq; replace hT3 := Lib.hid hT3; replace hO3 := Lib.hid hO3; replace hR3 := Lib.hid hR3; have m0 := hT3.out.o.cell (i := 0) (v := .slice T.an T.N.length T.cn) rfl; have m1 := hT3.out.o.cell (i := 1) (v := .slice T.ag T.G.length T.cg) rfl; have m2 := hT3.out.o.cell (i := 2) (v := .int .i64 T.last) rfl; have m3 := hT3.out.o.cell (i := 3) (v := .int .i64 T.now) rfl; have n0 := hO3.out.cell (i := 0) (v := .int .i64 o.kd) rfl; have n1 := hO3.out.cell (i := 1) (v := .int .i64 o.id) rfl; have n2 := hO3.out.cell (i := 2) (v := .int .i64 o.srv.k) rfl; have n3 := hO3.out.cell (i := 3) (v := .int .i64 o.srv.q) rfl; have n4 := hO3.out.cell (i := 4) (v := .int .i64 o.srv.t) rfl; have n5 := hO3.out.cell (i := 5) (v := .int .i64 o.pol) rfl; have n6 := hO3.out.cell (i := 6) (v := .slice oa o.tasks.length oc) rfl; have n7 := hO3.out.cell (i := 7) (v := .int .i64 o.at_) rfl; obtain ⟨knz, kn0, kn1, kn2, kn3, kn4, kn5, kn6⟩ := nd_at hT3.out.t hnb.out hx.out)
            | fail)
        clear c0 c1 c2 c3 o0 o1 o2 o3 o4 o5 o6 o7
        clear m0 m1 m2 m3 n0 n1 n2 n3 n4 n5 n6 n7
        clear kz k0 k1 k2 k3 k4 k5 k6
        clear knz kn0 kn1 kn2 kn3 kn4 kn5 kn6
        clear tp
        have c0 := hT3.out.o.cell (i := 0) (v := .slice T.an T.N.length T.cn) rfl
        have c1 := hT3.out.o.cell (i := 1) (v := .slice T.ag T.G.length T.cg) rfl
        have c2 := hT3.out.o.cell (i := 2) (v := .int .i64 T.last) rfl
        have c3 := hT3.out.o.cell (i := 3) (v := .int .i64 T.now) rfl
        have o0 := hO3.out.cell (i := 0) (v := .int .i64 o.kd) rfl
        have o1 := hO3.out.cell (i := 1) (v := .int .i64 o.id) rfl
        have o2 := hO3.out.cell (i := 2) (v := .int .i64 o.srv.k) rfl
        have o3 := hO3.out.cell (i := 3) (v := .int .i64 o.srv.q) rfl
        have o4 := hO3.out.cell (i := 4) (v := .int .i64 o.srv.t) rfl
        have o5 := hO3.out.cell (i := 5) (v := .int .i64 o.pol) rfl
        have o6 := hO3.out.cell (i := 6) (v := .slice oa o.tasks.length oc) rfl
        have o7 := hO3.out.cell (i := 7) (v := .int .i64 o.at_) rfl
        obtain ⟨kz, k0, k1, k2, k3, k4, k5, k6⟩ := nd_at hT3.out.t hnb.out hx.out
        have kf := fun q => owns_free hT3.out.t.n hnb.out q
        dsimp only at kf
        have hob : (Value.slice T.an T.N.length T.cn).ownBlock = some nb := by rw [hnb.out]; rfl
        have hn1 : nb ≠ w.heap.size := fun e => owns_blk hT3.out.t.n hO3.out (by decide) (by rw [hob, e])
        have hn2 : nb ≠ w.heap.size + 1 := fun e => owns_blk hT3.out.t.n hR3.out (by decide) (by rw [hob, e])
        have hn3 : nb ≠ tb := fun e => owns_blk hT3.out.t.n hT3.out.o (by decide) (by rw [hob, e])
        have hBn : B ≤ nb := (owns_lt hT3.out.t.n nb hob).2
        have hts : ∀ ad, oa = some ad → o.tasks ≠ [] → ad.block ∉ [nb] := fun ad ha ht hm => by have := hto.out ad ha ht; rw [List.mem_singleton.1 hm] at this; omega
        have gW3b : Gr W w3 := (g1.trans g2).trans gq23.out
        have gd3 : Gr w3 w3.drew := (Gr.refl w3).drew
        have ht3 : RecsIn (fun b => b ∉ [nb]) 4 Tsk.cells w3 oa o.tasks := ⟨(RecsIn.grx (K := Any) ⟨htW.out, fun _ _ _ => trivial⟩ (gW3b.x []) (fun _ h => by cases h)).1, hts⟩
        have htA := (RecsIn.grx (K := Any) ⟨ht3.1, fun _ _ _ => trivial⟩ (gd3.x []) (fun _ h => by cases h)).1
        have hcl := fun (w' : World) (hh : RecsAt 4 Tsk.cells w' oa o.tasks) => cloneF_any oa oc o.tasks w' hh hoc.out hom
        replace hob := Lib.hid hob
        replace ht3 := Lib.hid ht3
        replace htA := Lib.hid htA
        replace hcl := Lib.hid hcl
        replace hts := Lib.hid hts
        go_upto_region 10 with fail
        go_region_held3 (fun w' => w'.cell? ⟨w.heap.size, 0, none⟩ = some (.int .i64 o.kd) ∧ w'.cell? ⟨w.heap.size, 1, none⟩ = some (.int .i64 o.id) ∧ w'.cell? ⟨w.heap.size, 2, none⟩ = some (.int .i64 o.srv.k) ∧ w'.cell? ⟨w.heap.size, 3, none⟩ = some (.int .i64 o.srv.q) ∧ w'.cell? ⟨w.heap.size, 4, none⟩ = some (.int .i64 o.srv.t) ∧ w'.cell? ⟨w.heap.size, 5, none⟩ = some (.int .i64 o.pol) ∧ w'.cell? ⟨w.heap.size, 6, none⟩ = some (.slice oa o.tasks.length oc) ∧ w'.cell? ⟨w.heap.size, 7, none⟩ = some (.int .i64 o.at_)) (simp (maxDischargeDepth := 8) [go_sem, *])
          (first
            | (go_at_call 95; (with_reducible refine (hcl.out w3.drew htA.out).mono ?_); rintro e w5 ⟨a5, c5, rfl, r5, n5, m5, l5, g5, f5, x5⟩; have gq := gd3.trans g5; have hT5 := hT3.out.gr gq; have hO5 := hO3.out.gr gq; have kf5 := fun q => owns_free hT5.t.n hnb.out q; dsimp only at kf5; have p0 := hO5.cell (i := 0) (v := .int .i64 o.kd) rfl; have p1 := hO5.cell (i := 1) (v := .int .i64 o.id) rfl; have p2 := hO5.cell (i := 2) (v := .int .i64 o.srv.k) rfl; have p3 := hO5.cell (i := 3) (v := .int .i64 o.srv.q) rfl; have p4 := hO5.cell (i := 4) (v := .int .i64 o.srv.t) rfl; have p5 := hO5.cell (i := 5) (v := .int .i64 o.pol) rfl; have p6 := hO5.cell (i := 6) (v := .slice oa o.tasks.length oc) rfl; have p7 := hO5.cell (i := 7) (v := .int .i64 o.at_) rfl; obtain ⟨qz, q0, q1, q2, q3, q4, q5, q6⟩ := nd_at hT5.t hnb.out hx.out; replace hT5 := Lib.hid hT5; replace hO5 := Lib.hid hO5; replace r5 := Lib.hid r5; replace x5 := Lib.hid x5; replace f5 := Lib.hid f5)
            | fail)
        clear c0 c1 c2 c3 o0 o1 o2 o3 o4 o5 o6 o7
        clear kz k0 k1 k2 k3 k4 k5 k6
        clear p0 p1 p2 p3 p4 p5 p6 p7
        clear qz q0 q1 q2 q3 q4 q5 q6
        clear kf kf5
        obtain ⟨wx, hwx⟩ : ∃ wx, wx = (w5.setCell ⟨nb, i * 7 + 5, none⟩ (.int .i64 o.pol)).setCell ⟨nb, i * 7 + 6, none⟩ (.slice a5 o.tasks.length c5) := ⟨_, rfl⟩
        rw [← hwx]
        obtain ⟨y, hy⟩ : ∃ y : NdM, y = ⟨{x.e with pol := o.pol, tasks := o.tasks}, a5, c5⟩ := ⟨_, rfl⟩
        have hz3 := (nd_at hT3.out.t hnb.out hx.out).1
        have htb3 := hT3.out.o.lt
        have hzd : w3.drew.heap.size = w3.heap.size := rfl
        have hz5 := gq.size
        obtain ⟨ga, hA⟩ := own_pol hT5.out.t hnb.out hx.out o.pol rfl
        have r6 := (r5.out.grx ga (fun z hz hk => by rw [List.mem_singleton.1 hz] at hk; have hk2 : w3.heap.size ≤ nb := hk; omega)).mono (K' := fun b => B ≤ b) (fun b _ hk => by have hk2 : w3.heap.size ≤ b := hk; omega)
        have hq5 : ∀ ad, a5 = some ad → o.tasks ≠ [] → w3.heap.size ≤ ad.block := fun ad ha ht => r5.out.2 ad ha ht
        obtain ⟨gb, hC⟩ := own_tsk (x := ⟨{x.e with pol := o.pol}, x.a, x.c⟩) hA hnb.out (List.getElem?_set_self (get_lt hx.out)) o.tasks a5 c5 ⟨r6, n5, m5, l5, hom⟩ (fun ad ha ht => ⟨fun e => by have := hq5 ad ha ht; omega, fun e => by have := hq5 ad ha ht; have := (owns_lt hT3.out.t.g _ e).1; omega, fun q => by rw [ga.frozen (r5.out.1.lt ha ht) (fun hm => by have := hq5 ad ha ht; rw [List.mem_singleton.1 hm] at this; omega)]; exact f5.out ad ha ht q⟩) hwx
        dsimp only at hC
        rw [List.set_set, ← hy] at hC
        have hnl : (T.N.set i y).length = T.N.length := List.length_set ..
        have hbb : ∀ z ∈ T.N.set i y, ∀ ad, z.a = some ad → z.e.tasks ≠ [] → ad.block ≠ tb ∧ ad.block ≠ w.heap.size + 1 := fun z hz ad ha ht => by
          have hz1 := hR3.out.lt
          rcases List.mem_or_eq_of_mem_set hz with hz | hz
          · have := hlt.out _ (.inr (.inr (.inr ⟨z, hz, ad, ha, ht, rfl⟩))); exact ⟨hT3.out.b z hz ad ha ht, by omega⟩
          · rw [hz, hy] at ha ht; have := hq5 ad ha ht; exact ⟨by omega, by omega⟩
        have hOB : OutAt B wx tb ⟨T.N.set i y, T.an, T.cn, T.G, T.ag, T.cg, T.last, T.now⟩ := by
          refine ⟨?_, hC, hT3.out.hB, fun z hz ad ha ht => (hbb z hz ad ha ht).1⟩
          have h1 := (hT5.out.o.grx ga (fun hm => hn3 (List.mem_singleton.1 hm).symm)).grx gb (fun hm => hn3 (List.mem_singleton.1 hm).symm)
          dsimp only [TM.row] at h1 ⊢
          rw [hnl]
          exact h1
        have hRx := ((hR3.out.gr gq).grx ga (fun hm => hn2 (List.mem_singleton.1 hm).symm)).grx gb (fun hm => hn2 (List.mem_singleton.1 hm).symm)
        have hOx := (hO5.out.grx ga (fun hm => hn1 (List.mem_singleton.1 hm).symm)).grx gb (fun hm => hn1 (List.mem_singleton.1 hm).symm)
        have gWx : Gr W0 wx := gb.all (ga.all (gW3.trans gq) (fun z hz => by rw [List.mem_singleton.1 hz]; omega)) (fun z hz => by rw [List.mem_singleton.1 hz]; omega)
        have v1 := hOx.cell (i := 1) (v := .int .i64 o.id) rfl
        have r0 := hRx.cell (i := 0) (v := .int .i64 0) rfl
        have r1 := hRx.cell (i := 1) (v := .int .i64 0) rfl
        have rf := fun i => hRx.free i
        replace hwx := Lib.hid hwx
        replace hy := Lib.hid hy
        replace hA := Lib.hid hA
        replace hC := Lib.hid hC
        replace r6 := Lib.hid r6
        replace hq5 := Lib.hid hq5
        replace hnl := Lib.hid hnl
        replace hbb := Lib.hid hbb
        replace hOB := Lib.hid hOB
        replace hRx := Lib.hid hRx
        replace hOx := Lib.hid hOx
        go_wp2_with fail
        have hR9 : Blk ((wx.setCell ⟨w.heap.size + 1, 0, none⟩ (.int .i64 0)).setCell ⟨w.heap.size + 1, 1, none⟩ (.int .i64 o.id)) (w.heap.size + 1) #[.int .i64 0, .int .i64 o.id] 43 := (hRx.out.set 0 (.int .i64 0)).set 1 (.int .i64 o.id)
        have gx9 : GrX [w.heap.size + 1] wx ((wx.setCell ⟨w.heap.size + 1, 0, none⟩ (.int .i64 0)).setCell ⟨w.heap.size + 1, 1, none⟩ (.int .i64 o.id)) := ((GrX.refl _ _).set (.inl (by simp)) _).set (.inl (by simp)) _
        have q0 := hR9.cell (i := 0) (v := .int .i64 0) rfl
        have q1 := hR9.cell (i := 1) (v := .int .i64 o.id) rfl
        refine bodyPost_ret (v := .agg #[.int .i64 0, .int .i64 o.id]) (by simp [results, Tryz.results100, go_sem, q0, q1]) rfl ?_
        have hVe : V = (⟨(T.N.set i y).map (·.e), T.G, T.last, T.now⟩, 0, o.id) := by
          rw [hV.out]
          unfold TreeV.bind; rw [if_neg (by rw [hgo.out]; decide), if_neg (by rw [← hZ.out, hz.out]; simp), hfx.out]; dsimp only; rw [if_neg (by rw [hpol.out]; simp), if_neg (by rw [hk.out]; simp)]
          rw [set_nd (f := fun n => {n with pol := o.pol, tasks := o.tasks}) hs.out hx.out hid.out (by rw [hy.out])]
        have hTB : ∀ z, z ∈ [w.heap.size + 1] → ¬ treeB tb ⟨T.N.set i y, T.an, T.cn, T.G, T.ag, T.cg, T.last, T.now⟩ z := fun z hz ht => by
          rw [List.mem_singleton.1 hz] at ht
          rcases ht with ht | ht | ht | ⟨u, hu, ad, ha, htt, hab⟩
          · have := hlt.out tb (.inl rfl); omega
          · exact owns_blk hOB.out.t.n hRx.out (by decide) ht
          · exact owns_blk hOB.out.t.g hRx.out (by decide) ht
          · exact (hbb.out u hu ad ha htt).2 hab
        rw [hVe]
        exact ⟨rfl, _, hOB.out.away gx9 hTB, rfl, gx9.all gWx (fun z hz => by rw [List.mem_singleton.1 hz]; omega)⟩
    · have tp : (x.e.pol != 0) = true := by simpa using hpol
      replace hpol := Lib.hid hpol
      go_wp2_with fail
      clear kz k0 k1 k2 k3 k4 k5 k6
      refine (refused_any 3 _).mono ?_
      rintro e wz ⟨rfl, gz⟩
      have hRz := hR2.out.gr gz
      have hTz := hT2.out.gr gz
      have gWz := gW2.trans gz
      have r0 := hRz.cell (i := 0) (v := .int .i64 0) rfl
      have r1 := hRz.cell (i := 1) (v := .int .i64 0) rfl
      have rf := fun i => hRz.free i
      replace hRz := Lib.hid hRz
      replace hTz := Lib.hid hTz
      go_wp2_with fail
      have hR9 : Blk ((wz.setCell ⟨w.heap.size + 1, 0, none⟩ (.int .i64 3)).setCell ⟨w.heap.size + 1, 1, none⟩ (.int .i64 0)) (w.heap.size + 1) #[.int .i64 3, .int .i64 0] 43 := (hRz.out.set 0 (.int .i64 3)).set 1 (.int .i64 0)
      have gx : GrX [w.heap.size + 1] wz ((wz.setCell ⟨w.heap.size + 1, 0, none⟩ (.int .i64 3)).setCell ⟨w.heap.size + 1, 1, none⟩ (.int .i64 0)) := ((GrX.refl _ _).set (.inl (by simp)) _).set (.inl (by simp)) _
      have q0 := hR9.cell (i := 0) (v := .int .i64 3) rfl
      have q1 := hR9.cell (i := 1) (v := .int .i64 0) rfl
      refine bodyPost_ret (v := .agg #[.int .i64 3, .int .i64 0]) (by simp [results, Tryz.results100, go_sem, q0, q1]) rfl ?_
      have hVe : V = (T.v, 3, 0) := by rw [hV.out]; unfold TreeV.bind; rw [if_neg (by rw [hgo.out]; decide), if_neg (by rw [← hZ.out, hz.out]; simp), hfx.out]; dsimp only; rw [if_pos hpol.out]
      rw [hVe]
      exact ⟨rfl, T, hTz.out.away gx (fun y hy ht => by have := hlt.out y ht; simp at hy; omega), rfl, gx.all gWz (fun y hy => by simp at hy; have := hg0z; omega)⟩
end Go.Proofs.YtglfdnfojpdkjaaGreatDoor
