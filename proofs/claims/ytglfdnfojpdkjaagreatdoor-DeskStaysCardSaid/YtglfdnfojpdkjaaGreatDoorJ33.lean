/- tree.remove. Printed by gen_t26.py. -/
import Derived.Test.YtglfdnfojpdkjaaGreatDoorJ32
namespace Go.Proofs.YtglfdnfojpdkjaaGreatDoor
open Go.RowKit

/-- A tree's box, written. -/
theorem out_box {B : Nat} {w w' : World} {tb : Nat} {T : TM} {cs : Array Value} {j : Nat} {v : Value} (hr : Blk w tb cs 35) (ht : OwnT B w T) (hB : B ≤ tb) (hb : ∀ x ∈ T.N, ∀ ad, x.a = some ad → x.e.tasks ≠ [] → ad.block ≠ tb) (hw : w' = w.setCell ⟨tb, j, none⟩ v) (hc : cs.setIfInBounds j v = T.row) : GrX [tb] w w' ∧ OutAt B w' tb T := by
  have g : GrX [tb] w w' := by rw [hw]; exact (GrX.refl _ _).set (.inl (by simp)) _
  refine ⟨g, ?_, ht.ghosts g (fun k hk hm => owns_blk ht.n hr (by decide) (by rw [List.mem_singleton.1 hm] at hk; exact hk)) (fun y hy ad ha hta hm => hb y hy ad ha hta (List.mem_singleton.1 hm)) _ _ (owns_gx ht.g g (fun k hk hm => owns_blk ht.g hr (by decide) (by rw [List.mem_singleton.1 hm] at hk; exact hk))) ht.dg ht.l2, hB, hb⟩
  have h1 := hr.set j v
  rw [hc] at h1
  rw [hw]
  exact h1
theorem remove_eq {t : TreeV} {o : OrdV} {x : Nd} {T2 : TreeV} (hz : t.loose o.id = 0) (hf : t.find o.id = some x) (h2 : T2 = {t with nodes := t.nodes.filter fun x => decide (x.id ≠ o.id), ghosts := t.ghosts ++ [(⟨x.par, x.srv, 0⟩ : Gh)]}) : t.remove o = ({T2 with ghosts := t.ghosts ++ [(⟨x.par, x.srv, if kidsErr ((T2.server x.par).getD rootS) (T2.counted x.par) = none then t.now + drainI ((T2.server x.par).getD rootS) (T2.counted x.par) else 0⟩ : Gh)]}, 0, o.id) := by
  unfold TreeV.remove
  rw [if_neg (by rw [hz]; decide), hf, h2]
set_option maxRecDepth 100000 in
set_option maxHeartbeats 12800000 in
theorem remove_any {G : List Nat} {E : Nat → Addr} (W0 : World) (hE : EAt G E W0) (i0 : 4 ∈ G) (i1 : 5 ∈ G) (i3 : 7 ∈ G) (T : TM) (w : World) (tb B : Nat) (h : OutAt B w tb T) (hB0 : W0.heap.size ≤ B) (g0 : Gr W0 w) (hs : Srt T.N) (hn1 : 0 ≤ T.now) (hn2 : T.now ≤ 1099511627776) (hgl : T.G.length < 1000000) (o : OrdV) (oa : Option Addr) (oc : Nat) :
    Calls Tryz.prog 99 #[.pointer (some ⟨tb, 0, none⟩), .agg #[.int .i64 o.kd, .int .i64 o.id, .int .i64 o.srv.k, .int .i64 o.srv.q, .int .i64 o.srv.t, .int .i64 o.pol, .slice oa o.tasks.length oc, .int .i64 o.at_]] w (OrdP B W0 tb (T.v.remove o)) := by
  obtain ⟨V, hV⟩ : ∃ V, V = T.v.remove o := ⟨_, rfl⟩
  rw [← hV]
  obtain ⟨W, hW⟩ : ∃ W, W = (w.alloc (.cells #[.int .i64 o.kd, .int .i64 o.id, .int .i64 o.srv.k, .int .i64 o.srv.q, .int .i64 o.srv.t, .int .i64 o.pol, .slice oa o.tasks.length oc, .int .i64 o.at_] 27)).alloc (.cells #[.int .i64 0, .int .i64 0] 43) := ⟨_, rfl⟩
  have gA : Gr w W := by rw [hW]; exact ((Gr.refl w).alloc _).alloc _
  have hOW : Blk W w.heap.size #[.int .i64 o.kd, .int .i64 o.id, .int .i64 o.srv.k, .int .i64 o.srv.q, .int .i64 o.srv.t, .int .i64 o.pol, .slice oa o.tasks.length oc, .int .i64 o.at_] 27 := by rw [hW]; exact (Blk.new w _ _).alloc _
  have hRW : Blk W (w.heap.size + 1) #[.int .i64 0, .int .i64 0] 43 := by
    rw [hW]
    have := Blk.new (w.alloc (.cells #[.int .i64 o.kd, .int .i64 o.id, .int .i64 o.srv.k, .int .i64 o.srv.q, .int .i64 o.srv.t, .int .i64 o.pol, .slice oa o.tasks.length oc, .int .i64 o.at_] 27)) #[.int .i64 0, .int .i64 0] 43
    rw [World.size_alloc] at this
    exact this
  have hTW := h.gr gA
  have gWW := g0.trans gA
  have hg0z := g0.size
  have hWz : W.heap.size = w.heap.size + 2 := by rw [hW]; simp
  have hlt : ∀ y, treeB tb T y → y < w.heap.size := fun y hy => treeB_lt h hy
  replace hW := Lib.hid hW
  replace hOW := Lib.hid hOW
  replace hRW := Lib.hid hRW
  replace hTW := Lib.hid hTW
  replace hlt := Lib.hid hlt
  replace h := Lib.hid h
  replace hV := Lib.hid hV
  replace hWz := Lib.hid hWz
  replace hs := Lib.hid hs
  have c0 := hTW.out.o.cell (i := 0) (v := .slice T.an T.N.length T.cn) rfl
  have c1 := hTW.out.o.cell (i := 1) (v := .slice T.ag T.G.length T.cg) rfl
  have c2 := hTW.out.o.cell (i := 2) (v := .int .i64 T.last) rfl
  have c3 := hTW.out.o.cell (i := 3) (v := .int .i64 T.now) rfl
  have o0 := hOW.out.cell (i := 0) (v := .int .i64 o.kd) rfl
  have o1 := hOW.out.cell (i := 1) (v := .int .i64 o.id) rfl
  have o2 := hOW.out.cell (i := 2) (v := .int .i64 o.srv.k) rfl
  have o3 := hOW.out.cell (i := 3) (v := .int .i64 o.srv.q) rfl
  have o4 := hOW.out.cell (i := 4) (v := .int .i64 o.srv.t) rfl
  have o5 := hOW.out.cell (i := 5) (v := .int .i64 o.pol) rfl
  have o6 := hOW.out.cell (i := 6) (v := .slice oa o.tasks.length oc) rfl
  have o7 := hOW.out.cell (i := 7) (v := .int .i64 o.at_) rfl
  obtain ⟨Z, hZ⟩ : ∃ Z, Z = T.v.loose o.id := ⟨_, rfl⟩
  have hls := loose_any T o.id W tb B hTW.out hs.out
  replace hZ := Lib.hid hZ
  replace hls := Lib.hid hls
  go_enter Tryz.func99, Tryz.ntmps99
  go_upto_region 1 with fail
  rw [← hW.out]
  go_wp2_with fail
  refine hls.out.mono ?_
  rintro e w2 ⟨g2, hq⟩
  rw [← hZ.out] at hq
  clear c0 c1 c2 c3 o0 o1 o2 o3 o4 o5 o6 o7
  have hT2 := hTW.out.gr g2
  have zt2 := hT2.o.lt
  have hO2 := hOW.out.gr g2
  have zo2 := hO2.lt
  have hR2 := hRW.out.gr g2
  have gW2 := gWW.trans g2
  replace hT2 := Lib.hid hT2
  replace hO2 := Lib.hid hO2
  replace hR2 := Lib.hid hR2
  rcases hq with ⟨hz, rfl⟩ | ⟨hz, nb, i, x, hnb, hx, hid, rfl⟩
  · have tz : (Z != 0) = true := by simpa using hz
    replace hz := Lib.hid hz
    go_wp2_with fail
    refine (refused_any Z _).mono ?_
    rintro e wz ⟨rfl, gz⟩
    have hRz := hR2.out.gr gz
    have hTz := hT2.out.gr gz
    have gWz := gW2.trans gz
    have r0 := hRz.cell (i := 0) (v := .int .i64 0) rfl
    have r1 := hRz.cell (i := 1) (v := .int .i64 0) rfl
    have rf := fun i => hRz.free i
    replace hRz := Lib.hid hRz
    replace hTz := Lib.hid hTz
    go_wp2_with fail
    have hR9 : Blk ((wz.setCell ⟨w.heap.size + 1, 0, none⟩ (.int .i64 Z)).setCell ⟨w.heap.size + 1, 1, none⟩ (.int .i64 0)) (w.heap.size + 1) #[.int .i64 Z, .int .i64 0] 43 := (hRz.out.set 0 (.int .i64 Z)).set 1 (.int .i64 0)
    have gx : GrX [w.heap.size + 1] wz ((wz.setCell ⟨w.heap.size + 1, 0, none⟩ (.int .i64 Z)).setCell ⟨w.heap.size + 1, 1, none⟩ (.int .i64 0)) := ((GrX.refl _ _).set (.inl (by simp)) _).set (.inl (by simp)) _
    have q0 := hR9.cell (i := 0) (v := .int .i64 Z) rfl
    have q1 := hR9.cell (i := 1) (v := .int .i64 0) rfl
    refine bodyPost_ret (v := .agg #[.int .i64 Z, .int .i64 0]) (by simp [results, Tryz.results99, go_sem, q0, q1]) rfl ?_
    have hVe : V = (T.v, Z, 0) := by rw [hV.out]; unfold TreeV.remove; rw [if_pos (by rw [← hZ.out]; exact hz.out), hZ.out]
    rw [hVe]
    exact ⟨rfl, T, hTz.out.away gx (fun y hy ht => by have := hlt.out y ht; simp at hy; omega), rfl, gx.all gWz (fun y hy => by simp at hy; have := hg0z; omega)⟩
  · have hfx := find_yes hs.out hx hid
    replace hnb := Lib.hid hnb
    replace hx := Lib.hid hx
    replace hid := Lib.hid hid
    replace hz := Lib.hid hz
    replace hfx := Lib.hid hfx
    obtain ⟨kz, k0, k1, k2, k3, k4, k5, k6⟩ := nd_at hT2.out.t hnb.out hx.out
    have c0 := hT2.out.o.cell (i := 0) (v := .slice T.an T.N.length T.cn) rfl
    have c1 := hT2.out.o.cell (i := 1) (v := .slice T.ag T.G.length T.cg) rfl
    have c2 := hT2.out.o.cell (i := 2) (v := .int .i64 T.last) rfl
    have c3 := hT2.out.o.cell (i := 3) (v := .int .i64 T.now) rfl
    have o0 := hO2.out.cell (i := 0) (v := .int .i64 o.kd) rfl
    have o1 := hO2.out.cell (i := 1) (v := .int .i64 o.id) rfl
    have o2 := hO2.out.cell (i := 2) (v := .int .i64 o.srv.k) rfl
    have o3 := hO2.out.cell (i := 3) (v := .int .i64 o.srv.q) rfl
    have o4 := hO2.out.cell (i := 4) (v := .int .i64 o.srv.t) rfl
    have o5 := hO2.out.cell (i := 5) (v := .int .i64 o.pol) rfl
    have o6 := hO2.out.cell (i := 6) (v := .slice oa o.tasks.length oc) rfl
    have o7 := hO2.out.cell (i := 7) (v := .int .i64 o.at_) rfl
    go_upto_region 4 with fail
    go_region_held3 (fun w' => w'.cell? ⟨tb, 0, none⟩ = some (.slice T.an T.N.length T.cn) ∧ w'.cell? ⟨tb, 1, none⟩ = some (.slice T.ag T.G.length T.cg) ∧ w'.cell? ⟨tb, 2, none⟩ = some (.int .i64 T.last) ∧ w'.cell? ⟨tb, 3, none⟩ = some (.int .i64 T.now) ∧ w'.cell? ⟨w.heap.size, 0, none⟩ = some (.int .i64 o.kd) ∧ w'.cell? ⟨w.heap.size, 1, none⟩ = some (.int .i64 o.id) ∧ w'.cell? ⟨w.heap.size, 2, none⟩ = some (.int .i64 o.srv.k) ∧ w'.cell? ⟨w.heap.size, 3, none⟩ = some (.int .i64 o.srv.q) ∧ w'.cell? ⟨w.heap.size, 4, none⟩ = some (.int .i64 o.srv.t) ∧ w'.cell? ⟨w.heap.size, 5, none⟩ = some (.int .i64 o.pol) ∧ w'.cell? ⟨w.heap.size, 6, none⟩ = some (.slice oa o.tasks.length oc) ∧ w'.cell? ⟨w.heap.size, 7, none⟩ = some (.int .i64 o.at_) ∧ w'.cell? ⟨nb, i * 7, none⟩ = some (.int .i64 x.e.id) ∧ w'.cell? ⟨nb, i * 7 + 1, none⟩ = some (.int .i64 x.e.par) ∧ w'.cell? ⟨nb, i * 7 + 2, none⟩ = some (.int .i64 x.e.srv.k) ∧ w'.cell? ⟨nb, i * 7 + 3, none⟩ = some (.int .i64 x.e.srv.q) ∧ w'.cell? ⟨nb, i * 7 + 4, none⟩ = some (.int .i64 x.e.srv.t) ∧ w'.cell? ⟨nb, i * 7 + 5, none⟩ = some (.int .i64 x.e.pol) ∧ w'.cell? ⟨nb, i * 7 + 6, none⟩ = some (.slice x.a x.e.tasks.length x.c)) (simp (maxDischargeDepth := 8) [go_sem, *])
      (first | fail)
    clear c0 c1 c2 c3 o0 o1 o2 o3 o4 o5 o6 o7
    clear kz k0 k1 k2 k3 k4 k5 k6
    obtain ⟨w3, hw3⟩ : ∃ w3, w3 = (w2.alloc (.cells #[.int .i64 x.e.par, .int .i64 x.e.srv.k, .int .i64 x.e.srv.q, .int .i64 x.e.srv.t, .int .i64 0] 65)).drew := ⟨_, rfl⟩
    rw [← hw3]
    have g3 : Gr w2 w3 := by rw [hw3]; exact ((Gr.refl w2).alloc _).drew
    have hGb : Blk w3 w2.heap.size #[.int .i64 x.e.par, .int .i64 x.e.srv.k, .int .i64 x.e.srv.q, .int .i64 x.e.srv.t, .int .i64 0] 65 := by rw [hw3]; exact (Blk.new w2 _ _).drew
    obtain ⟨gb, hgb⟩ : ∃ gb, gb = w2.heap.size := ⟨_, rfl⟩
    rw [← hgb] at hGb ⊢
    replace hw3 := Lib.hid hw3
    replace hGb := Lib.hid hGb
    replace hgb := Lib.hid hgb
    have hT3 := hT2.out.gr g3
    have zt3 := hT3.o.lt
    have hO3 := hO2.out.gr g3
    have zo3 := hO3.lt
    have hR3 := hR2.out.gr g3
    have gW3 := gW2.trans g3
    replace hT3 := Lib.hid hT3
    replace hO3 := Lib.hid hO3
    replace hR3 := Lib.hid hR3
    have c0 := hT3.out.o.cell (i := 0) (v := .slice T.an T.N.length T.cn) rfl
    have c1 := hT3.out.o.cell (i := 1) (v := .slice T.ag T.G.length T.cg) rfl
    have c2 := hT3.out.o.cell (i := 2) (v := .int .i64 T.last) rfl
    have c3 := hT3.out.o.cell (i := 3) (v := .int .i64 T.now) rfl
    have o0 := hO3.out.cell (i := 0) (v := .int .i64 o.kd) rfl
    have o1 := hO3.out.cell (i := 1) (v := .int .i64 o.id) rfl
    have o2 := hO3.out.cell (i := 2) (v := .int .i64 o.srv.k) rfl
    have o3 := hO3.out.cell (i := 3) (v := .int .i64 o.srv.q) rfl
    have o4 := hO3.out.cell (i := 4) (v := .int .i64 o.srv.t) rfl
    have o5 := hO3.out.cell (i := 5) (v := .int .i64 o.pol) rfl
    have o6 := hO3.out.cell (i := 6) (v := .slice oa o.tasks.length oc) rfl
    have o7 := hO3.out.cell (i := 7) (v := .int .i64 o.at_) rfl
    have gd3 : Gr w3 w3.drew := (Gr.refl w3).drew
    have hix : Calls Tryz.prog 119 #[.agg T.row, .int .i64 o.id] w3.drew fun e w' => e = .returned (.tuple #[.int .i64 i, .bool true]) ∧ Gr w3.drew w' := (index_any T o.id w3.drew (hT3.out.gr gd3).any hs.out).mono (fun e w' ⟨i2, b2, he, g4, q1, q2⟩ => by
      cases b2 with
      | false => have h1 := find_no (q2 rfl); rw [hfx.out] at h1; cases h1
      | true =>
        obtain ⟨x2, hx2, hid2⟩ := q1 rfl
        obtain rfl := srt_inj hs.out hx.out hx2 (hid.out.trans hid2.symm)
        exact ⟨he, g4⟩)
    replace hix := Lib.hid hix
    go_upto_region 5 with fail
    go_region_held3 (fun w' => w'.cell? ⟨tb, 0, none⟩ = some (.slice T.an T.N.length T.cn) ∧ w'.cell? ⟨tb, 1, none⟩ = some (.slice T.ag T.G.length T.cg) ∧ w'.cell? ⟨tb, 2, none⟩ = some (.int .i64 T.last) ∧ w'.cell? ⟨tb, 3, none⟩ = some (.int .i64 T.now) ∧ w'.cell? ⟨w.heap.size, 0, none⟩ = some (.int .i64 o.kd) ∧ w'.cell? ⟨w.heap.size, 1, none⟩ = some (.int .i64 o.id) ∧ w'.cell? ⟨w.heap.size, 2, none⟩ = some (.int .i64 o.srv.k) ∧ w'.cell? ⟨w.heap.size, 3, none⟩ = some (.int .i64 o.srv.q) ∧ w'.cell? ⟨w.heap.size, 4, none⟩ = some (.int .i64 o.srv.t) ∧ w'.cell? ⟨w.heap.size, 5, none⟩ = some (.int .i64 o.pol) ∧ w'.cell? ⟨w.heap.size, 6, none⟩ = some (.slice oa o.tasks.length oc) ∧ w'.cell? ⟨w.heap.size, 7, none⟩ = some (.int .i64 o.at_)) (simp (maxDischargeDepth := 8) [go_sem, *])
      (first
        | (go_at_call 119; (with_reducible refine hix.out.mono ?_); rintro e w4 ⟨rfl, g4⟩; have gq := gd3.trans g4; have hT4 := hT3.out.gr gq; have zt4 := hT4.o.lt; have hO4 := hO3.out.gr gq; have zo4 := hO4.lt; have hR4 := hR3.out.gr gq; have gW4 := gW3.trans gq; replace hT4 := Lib.hid hT4; replace hO4 := Lib.hid hO4; replace hR4 := Lib.hid hR4; have m0 := hT4.out.o.cell (i := 0) (v := .slice T.an T.N.length T.cn) rfl; have m1 := hT4.out.o.cell (i := 1) (v := .slice T.ag T.G.length T.cg) rfl; have m2 := hT4.out.o.cell (i := 2) (v := .int .i64 T.last) rfl; have m3 := hT4.out.o.cell (i := 3) (v := .int .i64 T.now) rfl; have n0 := hO4.out.cell (i := 0) (v := .int .i64 o.kd) rfl; have n1 := hO4.out.cell (i := 1) (v := .int .i64 o.id) rfl; have n2 := hO4.out.cell (i := 2) (v := .int .i64 o.srv.k) rfl; have n3 := hO4.out.cell (i := 3) (v := .int .i64 o.srv.q) rfl; have n4 := hO4.out.cell (i := 4) (v := .int .i64 o.srv.t) rfl; have n5 := hO4.out.cell (i := 5) (v := .int .i64 o.pol) rfl; have n6 := hO4.out.cell (i := 6) (v := .slice oa o.tasks.length oc) rfl; have n7 := hO4.out.cell (i := 7) (v := .int .i64 o.at_) rfl)
        | fail)
    clear c0 c1 c2 c3 o0 o1 o2 o3 o4 o5 o6 o7
    clear m0 m1 m2 m3 n0 n1 n2 n3 n4 n5 n6 n7
    have hGb4 := hGb.out.gr gq
    replace hGb4 := Lib.hid hGb4
    have hil := get_lt hx.out
    have hdl := delete_any (B := B) T.N nb T.cn w4 (by have h1 := hT4.out.t.n; rw [hnb.out] at h1; exact h1) hT4.out.t.l1 i hil
    have c0 := hT4.out.o.cell (i := 0) (v := .slice T.an T.N.length T.cn) rfl
    have c1 := hT4.out.o.cell (i := 1) (v := .slice T.ag T.G.length T.cg) rfl
    have c2 := hT4.out.o.cell (i := 2) (v := .int .i64 T.last) rfl
    have c3 := hT4.out.o.cell (i := 3) (v := .int .i64 T.now) rfl
    have o0 := hO4.out.cell (i := 0) (v := .int .i64 o.kd) rfl
    have o1 := hO4.out.cell (i := 1) (v := .int .i64 o.id) rfl
    have o2 := hO4.out.cell (i := 2) (v := .int .i64 o.srv.k) rfl
    have o3 := hO4.out.cell (i := 3) (v := .int .i64 o.srv.q) rfl
    have o4 := hO4.out.cell (i := 4) (v := .int .i64 o.srv.t) rfl
    have o5 := hO4.out.cell (i := 5) (v := .int .i64 o.pol) rfl
    have o6 := hO4.out.cell (i := 6) (v := .slice oa o.tasks.length oc) rfl
    have o7 := hO4.out.cell (i := 7) (v := .int .i64 o.at_) rfl
    have hnl1 := hT4.out.t.l1
    have hwr : IntKind.i64.wrap ((i : Int) + 1) = (i : Int) + 1 := by rw [IntKind.wrap_i64]; omega
    rw [← hnb.out] at hdl
    replace hdl := Lib.hid hdl
    go_upto_region 6 with fail
    go_wp2_with fail
    refine hdl.out.mono ?_
    rintro e w5 ⟨rfl, gx5, hN5⟩
    have hob : (Value.slice T.an T.N.length T.cn).ownBlock = some nb := by rw [hnb.out]; rfl
    have hb1 : nb ≠ w.heap.size := fun e => owns_blk hT4.out.t.n hO4.out (by decide) (by rw [hob, e])
    have hb2 : nb ≠ w.heap.size + 1 := fun e => owns_blk hT4.out.t.n hR4.out (by decide) (by rw [hob, e])
    have hb3 : nb ≠ tb := fun e => owns_blk hT4.out.t.n hT4.out.o (by decide) (by rw [hob, e])
    have hb4 : nb ≠ gb := fun e => owns_blk hT4.out.t.n hGb4.out (by decide) (by rw [hob, e])
    have hW5 := own_del hT4.out.t hnb.out hil gx5 (by rw [hnb.out] at hN5; exact hN5)
    have hT5 := hT4.out.o.grx gx5 (fun hm => hb3 (List.mem_singleton.1 hm).symm)
    have hO5 := hO4.out.grx gx5 (fun hm => hb1 (List.mem_singleton.1 hm).symm)
    have hR5 := hR4.out.grx gx5 (fun hm => hb2 (List.mem_singleton.1 hm).symm)
    have hGb5 := hGb4.out.grx gx5 (fun hm => hb4 (List.mem_singleton.1 hm).symm)
    clear c0 c1 c2 c3 o0 o1 o2 o3 o4 o5 o6 o7
    have c0 := hT5.cell (i := 0) (v := .slice T.an T.N.length T.cn) rfl
    have c1 := hT5.cell (i := 1) (v := .slice T.ag T.G.length T.cg) rfl
    have c2 := hT5.cell (i := 2) (v := .int .i64 T.last) rfl
    have c3 := hT5.cell (i := 3) (v := .int .i64 T.now) rfl
    have fz := fun i => hT5.free i
    replace hob := Lib.hid hob
    replace hW5 := Lib.hid hW5
    replace hT5 := Lib.hid hT5
    replace hO5 := Lib.hid hO5
    replace hR5 := Lib.hid hR5
    replace hGb5 := Lib.hid hGb5
    replace hN5 := Lib.hid hN5
    replace gx5 := Lib.hid gx5
    go_upto_region 7 with fail
    obtain ⟨w5d, hw5d⟩ : ∃ w5d, w5d = w5.setCell ⟨tb, 0, none⟩ (.slice T.an (T.N.length - 1) T.cn) := ⟨_, rfl⟩
    rw [← hw5d]
    have hBt := hT4.out.hB
    have htl := hlt.out tb (.inl rfl)
    have hMl : (T.N.eraseIdx i).length = T.N.length - 1 := List.length_eraseIdx_of_lt hil
    obtain ⟨T1, hT1⟩ : ∃ T1 : TM, T1 = ⟨T.N.eraseIdx i, T.an, T.cn, T.G, T.ag, T.cg, T.last, T.now⟩ := ⟨_, rfl⟩
    obtain ⟨gxd, hT5d⟩ := out_box (T := T1) (j := 0) hT5.out (by rw [hT1]; exact hW5.out) hBt (fun y hy ad ha ht => hT4.out.b y (by rw [hT1] at hy; exact List.mem_of_mem_eraseIdx hy) ad ha ht) hw5d (by rw [hT1]; dsimp only [TM.row]; rw [hMl]; simp)
    have hO5d : Blk w5d w.heap.size #[.int .i64 o.kd, .int .i64 o.id, .int .i64 o.srv.k, .int .i64 o.srv.q, .int .i64 o.srv.t, .int .i64 o.pol, .slice oa o.tasks.length oc, .int .i64 o.at_] 27 := by rw [hw5d]; exact hO5.out.other (by show w.heap.size ≠ tb; omega) _
    have hR5d : Blk w5d (w.heap.size + 1) #[.int .i64 0, .int .i64 0] 43 := by rw [hw5d]; exact hR5.out.other (by show w.heap.size + 1 ≠ tb; omega) _
    have hG5d : Blk w5d gb #[.int .i64 x.e.par, .int .i64 x.e.srv.k, .int .i64 x.e.srv.q, .int .i64 x.e.srv.t, .int .i64 0] 65 := by rw [hw5d]; exact hGb5.out.other (by show gb ≠ tb; have := hgb.out; omega) _
    have gW5d : Gr W0 w5d := gxd.all (gx5.out.all gW4 (fun y hy => by rw [List.mem_singleton.1 hy]; have := (owns_lt hT4.out.t.n nb hob.out).2; omega)) (fun y hy => by rw [List.mem_singleton.1 hy]; omega)
    have hs1 : Srt T1.N := by rw [hT1]; exact srt_erase hs.out i
    have hN1 : T1.N.map (·.e) = T.v.nodes.filter fun n => decide (n.id ≠ o.id) := by rw [hT1]; exact erase_nd hs.out hx.out hid.out
    have hG1 : T1.G = T.G := by rw [hT1]
    have hla1 : T1.last = T.last := by rw [hT1]
    have hno1 : T1.now = T.now := by rw [hT1]
    have hgl1 : T1.G.length < 1000000 := by rw [hG1]; exact hgl
    have hng : (Value.slice T1.ag T1.G.length T1.cg).ownBlock ≠ some gb := by rw [hT1]; exact fun e => by have := hlt.out gb (.inr (.inr (.inl e))); have := hgb.out; omega
    have hbb : ∀ z ∈ T1.N, ∀ ad, z.a = some ad → z.e.tasks ≠ [] → ad.block < w.heap.size ∧ ad.block ≠ tb := fun z hz ad ha ht => by
      rw [hT1] at hz
      have hz2 := List.mem_of_mem_eraseIdx hz
      exact ⟨hlt.out _ (.inr (.inr (.inr ⟨z, hz2, ad, ha, ht, rfl⟩))), hT4.out.b z hz2 ad ha ht⟩
    clear c0 c1 c2 c3 fz
    replace hw5d := Lib.hid hw5d
    replace hT1 := Lib.hid hT1
    replace hT5d := Lib.hid hT5d
    replace hO5d := Lib.hid hO5d
    replace hR5d := Lib.hid hR5d
    replace hG5d := Lib.hid hG5d
    replace hs1 := Lib.hid hs1
    replace hN1 := Lib.hid hN1
    replace hG1 := Lib.hid hG1
    replace hng := Lib.hid hng
    replace hbb := Lib.hid hbb
    replace gxd := Lib.hid gxd
    replace hla1 := Lib.hid hla1
    replace hno1 := Lib.hid hno1
    have zt5d := hT5d.out.o.lt
    have zo5d := hO5d.out.lt
    have zg5d := hG5d.out.lt
    have c0 := hT5d.out.o.cell (i := 0) (v := .slice T1.an T1.N.length T1.cn) rfl
    have c1 := hT5d.out.o.cell (i := 1) (v := .slice T1.ag T1.G.length T1.cg) rfl
    have c2 := hT5d.out.o.cell (i := 2) (v := .int .i64 T1.last) rfl
    have c3 := hT5d.out.o.cell (i := 3) (v := .int .i64 T1.now) rfl
    have o0 := hO5d.out.cell (i := 0) (v := .int .i64 o.kd) rfl
    have o1 := hO5d.out.cell (i := 1) (v := .int .i64 o.id) rfl
    have o2 := hO5d.out.cell (i := 2) (v := .int .i64 o.srv.k) rfl
    have o3 := hO5d.out.cell (i := 3) (v := .int .i64 o.srv.q) rfl
    have o4 := hO5d.out.cell (i := 4) (v := .int .i64 o.srv.t) rfl
    have o5 := hO5d.out.cell (i := 5) (v := .int .i64 o.pol) rfl
    have o6 := hO5d.out.cell (i := 6) (v := .slice oa o.tasks.length oc) rfl
    have o7 := hO5d.out.cell (i := 7) (v := .int .i64 o.at_) rfl
    have g0 := hG5d.out.cell (i := 0) (v := .int .i64 x.e.par) rfl
    have g1 := hG5d.out.cell (i := 1) (v := .int .i64 x.e.srv.k) rfl
    have g2 := hG5d.out.cell (i := 2) (v := .int .i64 x.e.srv.q) rfl
    have g3 := hG5d.out.cell (i := 3) (v := .int .i64 x.e.srv.t) rfl
    have g4 := hG5d.out.cell (i := 4) (v := .int .i64 0) rfl
    have fz := fun i => hT5d.out.o.free i
    obtain ⟨j36, ji, jz0, jz1, jz2⟩ := info_parts Tryz.infoGh
    have gbz : Gr w5d (w5d.alloc (.cells #[.int .i64 x.e.par, .int .i64 x.e.srv.k, .int .i64 x.e.srv.q, .int .i64 x.e.srv.t, .int .i64 0] 65)).drew := ((Gr.refl w5d).alloc _).drew
    have hWz := hT5d.out.t.gr gbz
    have hGz := hWz.g
    have hxz : RecsAt 5 Gh.cells (w5d.alloc (.cells #[.int .i64 x.e.par, .int .i64 x.e.srv.k, .int .i64 x.e.srv.q, .int .i64 x.e.srv.t, .int .i64 0] 65)).drew (some ⟨w5d.heap.size, 0, none⟩) [(⟨x.e.par, x.e.srv, 0⟩ : Gh)] := (RecsIn.grx (K := Any) ⟨recs_alloc Gh.cells_len w5d [(⟨x.e.par, x.e.srv, 0⟩ : Gh)] 65 #[.int .i64 x.e.par, .int .i64 x.e.srv.k, .int .i64 x.e.srv.q, .int .i64 x.e.srv.t, .int .i64 0] (by simp), fun _ _ _ => trivial⟩ ((Gr.refl _).drew.x []) (fun _ h => by cases h)).1
    have hbz2 : B ≤ (w5d.alloc (.cells #[.int .i64 x.e.par, .int .i64 x.e.srv.k, .int .i64 x.e.srv.q, .int .i64 x.e.srv.t, .int .i64 0] 65)).drew.heap.size := by have := gbz.size; have := hT5d.out.o.lt; omega
    have hTz := hT5d.out.o.gr gbz
    have hOz2 := hO5d.out.gr gbz
    have hRz2 := hR5d.out.gr gbz
    have hGz2 := hG5d.out.gr gbz
    have hnt : (Value.slice T1.ag T1.G.length T1.cg).ownBlock ≠ some tb := owns_blk hT5d.out.t.g hT5d.out.o (by decide)
    have hno : (Value.slice T1.ag T1.G.length T1.cg).ownBlock ≠ some w.heap.size := owns_blk hT5d.out.t.g hO5d.out (by decide)
    have hnr : (Value.slice T1.ag T1.G.length T1.cg).ownBlock ≠ some (w.heap.size + 1) := owns_blk hT5d.out.t.g hR5d.out (by decide)
    replace hWz := Lib.hid hWz
    replace hGz := Lib.hid hGz
    replace hxz := Lib.hid hxz
    replace hTz := Lib.hid hTz
    replace hOz2 := Lib.hid hOz2
    replace hRz2 := Lib.hid hRz2
    replace hGz2 := Lib.hid hGz2
    replace hnt := Lib.hid hnt
    replace hno := Lib.hid hno
    replace hnr := Lib.hid hnr
    refine wp_region_Z 10 (fun w' => w'.cell? ⟨tb, 0, none⟩ = some (.slice T1.an T1.N.length T1.cn) ∧ w'.cell? ⟨tb, 1, none⟩ = some (.slice T1.ag T1.G.length T1.cg) ∧ w'.cell? ⟨tb, 2, none⟩ = some (.int .i64 T1.last) ∧ w'.cell? ⟨tb, 3, none⟩ = some (.int .i64 T1.now) ∧ w'.cell? ⟨w.heap.size, 0, none⟩ = some (.int .i64 o.kd) ∧ w'.cell? ⟨w.heap.size, 1, none⟩ = some (.int .i64 o.id) ∧ w'.cell? ⟨w.heap.size, 2, none⟩ = some (.int .i64 o.srv.k) ∧ w'.cell? ⟨w.heap.size, 3, none⟩ = some (.int .i64 o.srv.q) ∧ w'.cell? ⟨w.heap.size, 4, none⟩ = some (.int .i64 o.srv.t) ∧ w'.cell? ⟨w.heap.size, 5, none⟩ = some (.int .i64 o.pol) ∧ w'.cell? ⟨w.heap.size, 6, none⟩ = some (.slice oa o.tasks.length oc) ∧ w'.cell? ⟨w.heap.size, 7, none⟩ = some (.int .i64 o.at_) ∧ w'.cell? ⟨gb, 0, none⟩ = some (.int .i64 x.e.par) ∧ w'.cell? ⟨gb, 1, none⟩ = some (.int .i64 x.e.srv.k) ∧ w'.cell? ⟨gb, 2, none⟩ = some (.int .i64 x.e.srv.q) ∧ w'.cell? ⟨gb, 3, none⟩ = some (.int .i64 x.e.srv.t) ∧ w'.cell? ⟨gb, 4, none⟩ = some (.int .i64 0)) (by kernel_rfl) ?_
    have hS0 : (fun w' => w'.cell? ⟨tb, 0, none⟩ = some (.slice T1.an T1.N.length T1.cn) ∧ w'.cell? ⟨tb, 1, none⟩ = some (.slice T1.ag T1.G.length T1.cg) ∧ w'.cell? ⟨tb, 2, none⟩ = some (.int .i64 T1.last) ∧ w'.cell? ⟨tb, 3, none⟩ = some (.int .i64 T1.now) ∧ w'.cell? ⟨w.heap.size, 0, none⟩ = some (.int .i64 o.kd) ∧ w'.cell? ⟨w.heap.size, 1, none⟩ = some (.int .i64 o.id) ∧ w'.cell? ⟨w.heap.size, 2, none⟩ = some (.int .i64 o.srv.k) ∧ w'.cell? ⟨w.heap.size, 3, none⟩ = some (.int .i64 o.srv.q) ∧ w'.cell? ⟨w.heap.size, 4, none⟩ = some (.int .i64 o.srv.t) ∧ w'.cell? ⟨w.heap.size, 5, none⟩ = some (.int .i64 o.pol) ∧ w'.cell? ⟨w.heap.size, 6, none⟩ = some (.slice oa o.tasks.length oc) ∧ w'.cell? ⟨w.heap.size, 7, none⟩ = some (.int .i64 o.at_) ∧ w'.cell? ⟨gb, 0, none⟩ = some (.int .i64 x.e.par) ∧ w'.cell? ⟨gb, 1, none⟩ = some (.int .i64 x.e.srv.k) ∧ w'.cell? ⟨gb, 2, none⟩ = some (.int .i64 x.e.srv.q) ∧ w'.cell? ⟨gb, 3, none⟩ = some (.int .i64 x.e.srv.t) ∧ w'.cell? ⟨gb, 4, none⟩ = some (.int .i64 0)) w5d.drew := by (dsimp only; simp (maxDischargeDepth := 8) [go_sem, *])
    refine wpAnyZ_take (i := 0) (v := ?v0) rfl (by kernel_rfl) (by kernel_rfl) (by kernel_rfl) (by kernel_rfl) (fun _ _ _ h => h) (by rfl) ?y0 hS0 ?r0
    case y0 => (intro w hSw; (try dsimp only at hSw); go_simp; try with_reducible rfl)
    try simp only [Act.put, List.setIfInBounds_toArray]
    refine wpAnyZ_take (i := 1) (v := ?v1) rfl (by kernel_rfl) (by kernel_rfl) (by kernel_rfl) (by kernel_rfl) (fun _ _ _ h => h) (by rfl) ?y1 hS0 ?r1
    case y1 => (intro w hSw; (try dsimp only at hSw); go_simp; try with_reducible rfl)
    try simp only [Act.put]
    refine wpAnyZ_take (i := 2) (v := ?v2) rfl (by kernel_rfl) (by kernel_rfl) (by kernel_rfl) (by kernel_rfl) (fun _ _ _ h => h) (by rfl) ?y2 hS0 ?r2
    case y2 => (intro w hSw; (try dsimp only at hSw); go_simp; try with_reducible rfl)
    try simp only [Act.put]
    refine wpAnyZ_take (i := 3) (v := ?v3) rfl (by kernel_rfl) (by kernel_rfl) (by kernel_rfl) (by kernel_rfl) (fun _ _ _ h => h) (by rfl) ?y3 hS0 ?r3
    case y3 => (intro w hSw; (try dsimp only at hSw); go_simp; try with_reducible rfl)
    try simp only [Act.put]
    refine wpAnyZ_take (i := 4) (v := ?v4) rfl (by kernel_rfl) (by kernel_rfl) (by kernel_rfl) (by kernel_rfl) (fun _ _ _ h => h) (by rfl) ?y4 hS0 ?r4
    case y4 => (intro w hSw; (try dsimp only at hSw); go_simp; try with_reducible rfl)
    try simp only [Act.put]
    refine wpAnyZ_take (i := 5) (v := ?v5) rfl (by kernel_rfl) (by kernel_rfl) (by kernel_rfl) (by kernel_rfl) (fun _ _ _ h => h) (by rfl) ?y5 hS0 ?r5
    case y5 => (intro w hSw; (try dsimp only at hSw); go_simp; try with_reducible rfl)
    try simp only [Act.put]
    clear hS0
    refine wpAnyZ_one (i := 6) (by kernel_rfl) rfl (fun K hK => ?_)
    go_simp
    refine hK.out _ _ (fun _ => ?_) ?_
    · simp (maxDischargeDepth := 8) [go_sem, *]
    clear hK K
    try simp only [Act.put, List.setIfInBounds_toArray, List.set_cons_zero, List.set_cons_succ]
    refine wpAnyZ_one (i := 7) (by kernel_rfl) rfl (fun K hK => ?_)
    refine step_append_one (k := 5) (enc := Gh.cells) (by rfl) _ _ 33 (by rfl) B 65 j36 _ 40 Tryz.underlying33 ji jz0 jz1 jz2 rfl (by decide) Gh.cells_len Gh.cells_one (.slice T1.ag T1.G.length T1.cg) T1.G (by rfl) hGz.out w5d.heap.size 1 (⟨x.e.par, x.e.srv, 0⟩ : Gh) (by rfl) hxz.out (by unfold maxLen; omega) (by omega) hbz2 ?_
    intro v12 w12 hown12 hgr12 hat12
    obtain ⟨a12, c12, e12, -, -, -⟩ := recs_of_owns Gh.cells_len hown12
    subst e12
    have hTe := hTz.out.grown hgr12 (fun e => hnt.out e.symm)
    have hOe := hOz2.out.grown hgr12 (fun e => hno.out e.symm)
    have hRe := hRz2.out.grown hgr12 (fun e => hnr.out e.symm)
    have hGe := hGz2.out.grown hgr12 (fun e => hng.out e.symm)
    have hW12 := own_snocG hWz.out hown12 hgr12 hat12 (by omega)
    have u0 := hTe.cell (i := 0) (v := .slice T1.an T1.N.length T1.cn) rfl
    have u1 := hTe.cell (i := 1) (v := .slice T1.ag T1.G.length T1.cg) rfl
    have u2 := hTe.cell (i := 2) (v := .int .i64 T1.last) rfl
    have u3 := hTe.cell (i := 3) (v := .int .i64 T1.now) rfl
    have v0 := hOe.cell (i := 0) (v := .int .i64 o.kd) rfl
    have v1 := hOe.cell (i := 1) (v := .int .i64 o.id) rfl
    have v2 := hOe.cell (i := 2) (v := .int .i64 o.srv.k) rfl
    have v3 := hOe.cell (i := 3) (v := .int .i64 o.srv.q) rfl
    have v4 := hOe.cell (i := 4) (v := .int .i64 o.srv.t) rfl
    have v5 := hOe.cell (i := 5) (v := .int .i64 o.pol) rfl
    have v6 := hOe.cell (i := 6) (v := .slice oa o.tasks.length oc) rfl
    have v7 := hOe.cell (i := 7) (v := .int .i64 o.at_) rfl
    have q0 := hGe.cell (i := 0) (v := .int .i64 x.e.par) rfl
    have q1 := hGe.cell (i := 1) (v := .int .i64 x.e.srv.k) rfl
    have q2 := hGe.cell (i := 2) (v := .int .i64 x.e.srv.q) rfl
    have q3 := hGe.cell (i := 3) (v := .int .i64 x.e.srv.t) rfl
    have q4 := hGe.cell (i := 4) (v := .int .i64 0) rfl
    have uf := fun i => hTe.free i
    have hS7 : (fun w' => w'.cell? ⟨tb, 0, none⟩ = some (.slice T1.an T1.N.length T1.cn) ∧ w'.cell? ⟨tb, 1, none⟩ = some (.slice T1.ag T1.G.length T1.cg) ∧ w'.cell? ⟨tb, 2, none⟩ = some (.int .i64 T1.last) ∧ w'.cell? ⟨tb, 3, none⟩ = some (.int .i64 T1.now) ∧ w'.cell? ⟨w.heap.size, 0, none⟩ = some (.int .i64 o.kd) ∧ w'.cell? ⟨w.heap.size, 1, none⟩ = some (.int .i64 o.id) ∧ w'.cell? ⟨w.heap.size, 2, none⟩ = some (.int .i64 o.srv.k) ∧ w'.cell? ⟨w.heap.size, 3, none⟩ = some (.int .i64 o.srv.q) ∧ w'.cell? ⟨w.heap.size, 4, none⟩ = some (.int .i64 o.srv.t) ∧ w'.cell? ⟨w.heap.size, 5, none⟩ = some (.int .i64 o.pol) ∧ w'.cell? ⟨w.heap.size, 6, none⟩ = some (.slice oa o.tasks.length oc) ∧ w'.cell? ⟨w.heap.size, 7, none⟩ = some (.int .i64 o.at_) ∧ w'.cell? ⟨gb, 0, none⟩ = some (.int .i64 x.e.par) ∧ w'.cell? ⟨gb, 1, none⟩ = some (.int .i64 x.e.srv.k) ∧ w'.cell? ⟨gb, 2, none⟩ = some (.int .i64 x.e.srv.q) ∧ w'.cell? ⟨gb, 3, none⟩ = some (.int .i64 x.e.srv.t) ∧ w'.cell? ⟨gb, 4, none⟩ = some (.int .i64 0)) w12 := ⟨u0, u1, u2, u3, v0, v1, v2, v3, v4, v5, v6, v7, q0, q1, q2, q3, q4⟩
    replace hTe := Lib.hid hTe
    replace hOe := Lib.hid hOe
    replace hRe := Lib.hid hRe
    replace hGe := Lib.hid hGe
    replace hown12 := Lib.hid hown12
    replace hgr12 := Lib.hid hgr12
    replace hat12 := Lib.hid hat12
    replace hW12 := Lib.hid hW12
    refine hK.out _ _ (fun _ => hS7) ?_
    clear hK K
    try simp only [Act.put, List.setIfInBounds_toArray]
    refine wpAnyZ_one (i := 8) (by kernel_rfl) rfl (fun K hK => ?_)
    go_simp
    refine hK.out _ _ (fun _ => hS7) ?_
    clear hK K
    try simp only [Act.put, List.setIfInBounds_toArray, List.set_cons_zero, List.set_cons_succ]
    refine wpAnyZ_one (i := 9) (by kernel_rfl) rfl (fun K hK => ?_)
    go_simp
    refine hK.out _ _ (fun _ => hS7) ?_
    clear hK K
    try simp only [Act.put, List.setIfInBounds_toArray, List.set_cons_zero, List.set_cons_succ]
    refine wpAnyZ_one (i := 10) (by kernel_rfl) rfl (fun K hK => ?_)
    clear hS7
    go_simp
    refine hK.out _ _ (fun h => absurd rfl h) ?_
    clear hK K
    try simp only [Act.put, List.setIfInBounds_toArray, List.set_cons_zero, List.set_cons_succ]
    refine wpAnyZ_done (by kernel_rfl) ?_ _
    refine NoPanic.normal ?_
    clear c0 c1 c2 c3 o0 o1 o2 o3 o4 o5 o6 o7 g0 g1 g2 g3 g4
    clear fz
    obtain ⟨w6, hw6⟩ : ∃ w6, w6 = w12.setCell ⟨tb, 1, none⟩ (.slice a12 (T1.G.length + 1) c12) := ⟨_, rfl⟩
    rw [← hw6]
    have hGl : (T1.G ++ [(⟨x.e.par, x.e.srv, 0⟩ : Gh)]).length = T1.G.length + 1 := by simp
    obtain ⟨T2, hT2⟩ : ∃ T2 : TM, T2 = ⟨T1.N, T1.an, T1.cn, T1.G ++ [(⟨x.e.par, x.e.srv, 0⟩ : Gh)], a12, c12, T1.last, T1.now⟩ := ⟨_, rfl⟩
    obtain ⟨gxe, hT6⟩ := out_box (T := T2) (j := 1) hTe.out (by rw [hT2]; exact hW12.out) hBt (by rw [hT2]; exact hT5d.out.b) hw6 (by rw [hT2]; dsimp only [TM.row]; rw [hGl]; simp)
    have hO6 : Blk w6 w.heap.size #[.int .i64 o.kd, .int .i64 o.id, .int .i64 o.srv.k, .int .i64 o.srv.q, .int .i64 o.srv.t, .int .i64 o.pol, .slice oa o.tasks.length oc, .int .i64 o.at_] 27 := by rw [hw6]; exact hOe.out.other (by show w.heap.size ≠ tb; omega) _
    have hR6 : Blk w6 (w.heap.size + 1) #[.int .i64 0, .int .i64 0] 43 := by rw [hw6]; exact hRe.out.other (by show w.heap.size + 1 ≠ tb; omega) _
    have hG6 : Blk w6 gb #[.int .i64 x.e.par, .int .i64 x.e.srv.k, .int .i64 x.e.srv.q, .int .i64 x.e.srv.t, .int .i64 0] 65 := by rw [hw6]; exact hGe.out.other (by show gb ≠ tb; have := hgb.out; omega) _
    have gW6 : Gr W0 w6 := gxe.all ((gW5d.trans gbz).grown hgr12.out (fun k hk => by have := (owns_lt hGz.out k hk).2; omega)) (fun y hy => by rw [List.mem_singleton.1 hy]; omega)
    have hs2 : Srt T2.N := by rw [hT2]; exact hs1.out
    have hN2 : T2.N = T1.N := by rw [hT2]
    have hG2 : T2.G = T1.G ++ [(⟨x.e.par, x.e.srv, 0⟩ : Gh)] := by rw [hT2]
    have hno2 : T2.now = T.now := by rw [hT2]; exact hno1.out
    have hla2 : T2.last = T.last := by rw [hT2]; exact hla1.out
    have hT2v : T2.v = {T.v with nodes := T.v.nodes.filter fun x => decide (x.id ≠ o.id), ghosts := T.v.ghosts ++ [(⟨x.e.par, x.e.srv, 0⟩ : Gh)]} := by
      show (⟨T2.N.map (·.e), T2.G, T2.last, T2.now⟩ : TreeV) = ⟨T.v.nodes.filter fun x => decide (x.id ≠ o.id), T.G ++ [(⟨x.e.par, x.e.srv, 0⟩ : Gh)], T.last, T.now⟩
      rw [hN2, hN1.out, hG2, hG1.out, hla2, hno2]
    have hRE := remove_eq (o := o) (hZ.out.symm.trans hz.out) hfx.out hT2v
    clear u0 u1 u2 u3 v0 v1 v2 v3 v4 v5 v6 v7 q0 q1 q2 q3 q4 uf
    replace hw6 := Lib.hid hw6
    replace hT2 := Lib.hid hT2
    replace hT6 := Lib.hid hT6
    replace hO6 := Lib.hid hO6
    replace hR6 := Lib.hid hR6
    replace hG6 := Lib.hid hG6
    replace hs2 := Lib.hid hs2
    replace hN2 := Lib.hid hN2
    replace hG2 := Lib.hid hG2
    replace hT2v := Lib.hid hT2v
    replace hRE := Lib.hid hRE
    replace gxe := Lib.hid gxe
    replace hno2 := Lib.hid hno2
    replace hla2 := Lib.hid hla2
    have zt6 := hT6.out.o.lt
    have zo6 := hO6.out.lt
    have zg6 := hG6.out.lt
    have c0 := hT6.out.o.cell (i := 0) (v := .slice T2.an T2.N.length T2.cn) rfl
    have c1 := hT6.out.o.cell (i := 1) (v := .slice T2.ag T2.G.length T2.cg) rfl
    have c2 := hT6.out.o.cell (i := 2) (v := .int .i64 T2.last) rfl
    have c3 := hT6.out.o.cell (i := 3) (v := .int .i64 T2.now) rfl
    have o0 := hO6.out.cell (i := 0) (v := .int .i64 o.kd) rfl
    have o1 := hO6.out.cell (i := 1) (v := .int .i64 o.id) rfl
    have o2 := hO6.out.cell (i := 2) (v := .int .i64 o.srv.k) rfl
    have o3 := hO6.out.cell (i := 3) (v := .int .i64 o.srv.q) rfl
    have o4 := hO6.out.cell (i := 4) (v := .int .i64 o.srv.t) rfl
    have o5 := hO6.out.cell (i := 5) (v := .int .i64 o.pol) rfl
    have o6 := hO6.out.cell (i := 6) (v := .slice oa o.tasks.length oc) rfl
    have o7 := hO6.out.cell (i := 7) (v := .int .i64 o.at_) rfl
    have g0 := hG6.out.cell (i := 0) (v := .int .i64 x.e.par) rfl
    have g1 := hG6.out.cell (i := 1) (v := .int .i64 x.e.srv.k) rfl
    have g2 := hG6.out.cell (i := 2) (v := .int .i64 x.e.srv.q) rfl
    have g3 := hG6.out.cell (i := 3) (v := .int .i64 x.e.srv.t) rfl
    have g4 := hG6.out.cell (i := 4) (v := .int .i64 0) rfl
    obtain ⟨s, hsd⟩ : ∃ s, s = (T2.v.server x.e.par).getD rootS := ⟨_, rfl⟩
    obtain ⟨sb, hsb⟩ : ∃ sb, sb = (T2.v.server x.e.par).isSome := ⟨_, rfl⟩
    have hsr : ∀ w', Gr w6 w' → Calls Tryz.prog 112 #[.agg T2.row, .int .i64 x.e.par] w' fun e w3 => e = .returned (.tuple #[.agg #[.int .i64 s.k, .int .i64 s.q, .int .i64 s.t], .bool sb]) ∧ Gr w' w3 := fun w' gg => (server_any T2 x.e.par w' (hT6.out.gr gg).any hs2.out).mono (fun e w3 ⟨s2, h2, h3, h4⟩ => by rw [← hsd] at h2; subst h2; rw [← hsb] at h3; exact ⟨h3, h4⟩)
    replace hsd := Lib.hid hsd
    replace hsb := Lib.hid hsb
    replace hsr := Lib.hid hsr
    go_upto_region 8 with fail
    go_cut [10, 11] (fun s10 s11 wx => ∃ pb : Nat, s10 = .pointer (some ⟨pb, 0, none⟩) ∧ s11 = .bool sb ∧ Hid (Blk wx pb #[.int .i64 s.k, .int .i64 s.q, .int .i64 s.t] 24 ∧ Gr w6 wx))
    case first =>
      go_region_held3 (fun w' => w'.cell? ⟨tb, 0, none⟩ = some (.slice T2.an T2.N.length T2.cn) ∧ w'.cell? ⟨tb, 1, none⟩ = some (.slice T2.ag T2.G.length T2.cg) ∧ w'.cell? ⟨tb, 2, none⟩ = some (.int .i64 T2.last) ∧ w'.cell? ⟨tb, 3, none⟩ = some (.int .i64 T2.now) ∧ w'.cell? ⟨w.heap.size, 0, none⟩ = some (.int .i64 o.kd) ∧ w'.cell? ⟨w.heap.size, 1, none⟩ = some (.int .i64 o.id) ∧ w'.cell? ⟨w.heap.size, 2, none⟩ = some (.int .i64 o.srv.k) ∧ w'.cell? ⟨w.heap.size, 3, none⟩ = some (.int .i64 o.srv.q) ∧ w'.cell? ⟨w.heap.size, 4, none⟩ = some (.int .i64 o.srv.t) ∧ w'.cell? ⟨w.heap.size, 5, none⟩ = some (.int .i64 o.pol) ∧ w'.cell? ⟨w.heap.size, 6, none⟩ = some (.slice oa o.tasks.length oc) ∧ w'.cell? ⟨w.heap.size, 7, none⟩ = some (.int .i64 o.at_) ∧ w'.cell? ⟨gb, 0, none⟩ = some (.int .i64 x.e.par) ∧ w'.cell? ⟨gb, 1, none⟩ = some (.int .i64 x.e.srv.k) ∧ w'.cell? ⟨gb, 2, none⟩ = some (.int .i64 x.e.srv.q) ∧ w'.cell? ⟨gb, 3, none⟩ = some (.int .i64 x.e.srv.t) ∧ w'.cell? ⟨gb, 4, none⟩ = some (.int .i64 0)) (simp (maxDischargeDepth := 8) [go_sem, *])
        (first
          | (go_at_call 112; (with_reducible refine (hsr.out w6.drew ((Gr.refl _).drew)).mono ?_); rintro e w7 ⟨rfl, gc⟩; have gq : Gr w6 w7 := ((Gr.refl w6).drew).trans gc; have hT7 := hT6.out.gr gq; have zt7 := hT7.o.lt; have hO7 := hO6.out.gr gq; have zo7 := hO7.lt; have hR7 := hR6.out.gr gq; have gW7 := gW6.trans gq; replace hT7 := Lib.hid hT7; replace hO7 := Lib.hid hO7; replace hR7 := Lib.hid hR7; have hG7 := hG6.out.gr gq; have zg7 := hG7.lt; replace hG7 := Lib.hid hG7; have m0 := hT7.out.o.cell (i := 0) (v := .slice T2.an T2.N.length T2.cn) rfl; have m1 := hT7.out.o.cell (i := 1) (v := .slice T2.ag T2.G.length T2.cg) rfl; have m2 := hT7.out.o.cell (i := 2) (v := .int .i64 T2.last) rfl; have m3 := hT7.out.o.cell (i := 3) (v := .int .i64 T2.now) rfl; have n0 := hO7.out.cell (i := 0) (v := .int .i64 o.kd) rfl; have n1 := hO7.out.cell (i := 1) (v := .int .i64 o.id) rfl; have n2 := hO7.out.cell (i := 2) (v := .int .i64 o.srv.k) rfl; have n3 := hO7.out.cell (i := 3) (v := .int .i64 o.srv.q) rfl; have n4 := hO7.out.cell (i := 4) (v := .int .i64 o.srv.t) rfl; have n5 := hO7.out.cell (i := 5) (v := .int .i64 o.pol) rfl; have n6 := hO7.out.cell (i := 6) (v := .slice oa o.tasks.length oc) rfl; have n7 := hO7.out.cell (i := 7) (v := .int .i64 o.at_) rfl; have q0 := hG7.out.cell (i := 0) (v := .int .i64 x.e.par) rfl; have q1 := hG7.out.cell (i := 1) (v := .int .i64 x.e.srv.k) rfl; have q2 := hG7.out.cell (i := 2) (v := .int .i64 x.e.srv.q) rfl; have q3 := hG7.out.cell (i := 3) (v := .int .i64 x.e.srv.t) rfl; have q4 := hG7.out.cell (i := 4) (v := .int .i64 0) rfl)
          | (go_at_call 112; (with_reducible refine (hsr.out (w6.alloc (.cells #[.int .i64 0, .int .i64 0, .int .i64 0] 24)).drew (((Gr.refl _).alloc _).drew)).mono ?_); rintro e w7 ⟨rfl, gc⟩; have gq : Gr w6 w7 := (((Gr.refl w6).alloc _).drew).trans gc; have hP := ((Blk.new w6 #[.int .i64 0, .int .i64 0, .int .i64 0] 24).drew).gr gc; have p0 := hP.cell (i := 0) (v := .int .i64 0) rfl; have p1 := hP.cell (i := 1) (v := .int .i64 0) rfl; have p2 := hP.cell (i := 2) (v := .int .i64 0) rfl; have pf := fun i => hP.free i; replace hP := Lib.hid hP; have hT7 := hT6.out.gr gq; have zt7 := hT7.o.lt; have hO7 := hO6.out.gr gq; have zo7 := hO7.lt; have hR7 := hR6.out.gr gq; have gW7 := gW6.trans gq; replace hT7 := Lib.hid hT7; replace hO7 := Lib.hid hO7; replace hR7 := Lib.hid hR7; have hG7 := hG6.out.gr gq; have zg7 := hG7.lt; replace hG7 := Lib.hid hG7; have m0 := hT7.out.o.cell (i := 0) (v := .slice T2.an T2.N.length T2.cn) rfl; have m1 := hT7.out.o.cell (i := 1) (v := .slice T2.ag T2.G.length T2.cg) rfl; have m2 := hT7.out.o.cell (i := 2) (v := .int .i64 T2.last) rfl; have m3 := hT7.out.o.cell (i := 3) (v := .int .i64 T2.now) rfl; have n0 := hO7.out.cell (i := 0) (v := .int .i64 o.kd) rfl; have n1 := hO7.out.cell (i := 1) (v := .int .i64 o.id) rfl; have n2 := hO7.out.cell (i := 2) (v := .int .i64 o.srv.k) rfl; have n3 := hO7.out.cell (i := 3) (v := .int .i64 o.srv.q) rfl; have n4 := hO7.out.cell (i := 4) (v := .int .i64 o.srv.t) rfl; have n5 := hO7.out.cell (i := 5) (v := .int .i64 o.pol) rfl; have n6 := hO7.out.cell (i := 6) (v := .slice oa o.tasks.length oc) rfl; have n7 := hO7.out.cell (i := 7) (v := .int .i64 o.at_) rfl; have q0 := hG7.out.cell (i := 0) (v := .int .i64 x.e.par) rfl; have q1 := hG7.out.cell (i := 1) (v := .int .i64 x.e.srv.k) rfl; have q2 := hG7.out.cell (i := 2) (v := .int .i64 x.e.srv.q) rfl; have q3 := hG7.out.cell (i := 3) (v := .int .i64 x.e.srv.t) rfl; have q4 := hG7.out.cell (i := 4) (v := .int .i64 0) rfl)
          | fail)
      all_goals go_wp2_with fail
      all_goals go_meet
      · exact ⟨_, rfl, rfl, Lib.hid ⟨Blk.new w7 _ _, gq.alloc _⟩⟩
      · exact ⟨_, rfl, rfl, Lib.hid ⟨((hP.out.set 0 _).set 1 _).set 2 _, ((gq.setCell (Nat.le_refl _) _).setCell (Nat.le_refl _) _).setCell (Nat.le_refl _) _⟩⟩
    case rest =>
      obtain ⟨pb, rfl, rfl, hc⟩ := hcut
      obtain ⟨hPb, gc7⟩ := hc.out
      obtain ⟨w7, rfl⟩ : ∃ w7 : World, w7 = wc := ⟨_, rfl⟩
      clear c0 c1 c2 c3 o0 o1 o2 o3 o4 o5 o6 o7 g0 g1 g2 g3 g4
      clear hc
      have hT7 := hT6.out.gr gc7
      have zt7 := hT7.o.lt
      have hO7 := hO6.out.gr gc7
      have zo7 := hO7.lt
      have hR7 := hR6.out.gr gc7
      have gW7 := gW6.trans gc7
      replace hT7 := Lib.hid hT7
      replace hO7 := Lib.hid hO7
      replace hR7 := Lib.hid hR7
      have hG7 := hG6.out.gr gc7
      have zg7 := hG7.lt
      replace hG7 := Lib.hid hG7
      replace hPb := Lib.hid hPb
      have c0 := hT7.out.o.cell (i := 0) (v := .slice T2.an T2.N.length T2.cn) rfl
      have c1 := hT7.out.o.cell (i := 1) (v := .slice T2.ag T2.G.length T2.cg) rfl
      have c2 := hT7.out.o.cell (i := 2) (v := .int .i64 T2.last) rfl
      have c3 := hT7.out.o.cell (i := 3) (v := .int .i64 T2.now) rfl
      have o0 := hO7.out.cell (i := 0) (v := .int .i64 o.kd) rfl
      have o1 := hO7.out.cell (i := 1) (v := .int .i64 o.id) rfl
      have o2 := hO7.out.cell (i := 2) (v := .int .i64 o.srv.k) rfl
      have o3 := hO7.out.cell (i := 3) (v := .int .i64 o.srv.q) rfl
      have o4 := hO7.out.cell (i := 4) (v := .int .i64 o.srv.t) rfl
      have o5 := hO7.out.cell (i := 5) (v := .int .i64 o.pol) rfl
      have o6 := hO7.out.cell (i := 6) (v := .slice oa o.tasks.length oc) rfl
      have o7 := hO7.out.cell (i := 7) (v := .int .i64 o.at_) rfl
      have g0 := hG7.out.cell (i := 0) (v := .int .i64 x.e.par) rfl
      have g1 := hG7.out.cell (i := 1) (v := .int .i64 x.e.srv.k) rfl
      have g2 := hG7.out.cell (i := 2) (v := .int .i64 x.e.srv.q) rfl
      have g3 := hG7.out.cell (i := 3) (v := .int .i64 x.e.srv.t) rfl
      have g4 := hG7.out.cell (i := 4) (v := .int .i64 0) rfl
      obtain ⟨L, hL⟩ : ∃ L, L = T2.v.counted x.e.par := ⟨_, rfl⟩
      have hLl : L.length ≤ 2000000 := by
        have h1 := cntN_len T2.N x.e.par T2.N.length
        have h2 := cntG_len T2.G x.e.par T2.G.length
        have h3 := hT7.out.t.l1
        have h4 := hT7.out.t.l2
        rw [hL, cnt_all, List.length_append]
        omega
      have gd7 : Gr w7 w7.drew := (Gr.refl w7).drew
      have hcn := counted_any T2 x.e.par w7.drew (hT7.out.gr gd7).any
      rw [← hL] at hcn
      replace hcn := Lib.hid hcn
      have hRE2 := hRE.out
      rw [← hsd.out, ← hL] at hRE2
      replace hRE2 := Lib.hid hRE2
      clear hRE
      replace hL := Lib.hid hL
      have zp7 := hPb.out.lt
      have pc0 := hPb.out.cell (i := 0) (v := .int .i64 s.k) rfl
      have pc1 := hPb.out.cell (i := 1) (v := .int .i64 s.q) rfl
      have pc2 := hPb.out.cell (i := 2) (v := .int .i64 s.t) rfl
      go_upto_region 9 with fail
      cases hk : kidsErr s L with
      | some ge =>
        replace hRE2 := hRE2.out
        rw [hk, if_neg (by simp)] at hRE2
        replace hRE2 := Lib.hid hRE2
        replace hk := Lib.hid hk
        go_region_held3 (fun w' => w'.cell? ⟨tb, 0, none⟩ = some (.slice T2.an T2.N.length T2.cn) ∧ w'.cell? ⟨tb, 1, none⟩ = some (.slice T2.ag T2.G.length T2.cg) ∧ w'.cell? ⟨tb, 2, none⟩ = some (.int .i64 T2.last) ∧ w'.cell? ⟨tb, 3, none⟩ = some (.int .i64 T2.now) ∧ w'.cell? ⟨w.heap.size, 0, none⟩ = some (.int .i64 o.kd) ∧ w'.cell? ⟨w.heap.size, 1, none⟩ = some (.int .i64 o.id) ∧ w'.cell? ⟨w.heap.size, 2, none⟩ = some (.int .i64 o.srv.k) ∧ w'.cell? ⟨w.heap.size, 3, none⟩ = some (.int .i64 o.srv.q) ∧ w'.cell? ⟨w.heap.size, 4, none⟩ = some (.int .i64 o.srv.t) ∧ w'.cell? ⟨w.heap.size, 5, none⟩ = some (.int .i64 o.pol) ∧ w'.cell? ⟨w.heap.size, 6, none⟩ = some (.slice oa o.tasks.length oc) ∧ w'.cell? ⟨w.heap.size, 7, none⟩ = some (.int .i64 o.at_) ∧ w'.cell? ⟨gb, 0, none⟩ = some (.int .i64 x.e.par) ∧ w'.cell? ⟨gb, 1, none⟩ = some (.int .i64 x.e.srv.k) ∧ w'.cell? ⟨gb, 2, none⟩ = some (.int .i64 x.e.srv.q) ∧ w'.cell? ⟨gb, 3, none⟩ = some (.int .i64 x.e.srv.t) ∧ w'.cell? ⟨gb, 4, none⟩ = some (.int .i64 0) ∧ w'.cell? ⟨pb, 0, none⟩ = some (.int .i64 s.k) ∧ w'.cell? ⟨pb, 1, none⟩ = some (.int .i64 s.q) ∧ w'.cell? ⟨pb, 2, none⟩ = some (.int .i64 s.t)) (simp (maxDischargeDepth := 8) [go_sem, *])
          (first
            | (go_at_call 115; (with_reducible refine hcn.out.mono ?_); rintro e w8 ⟨a8, k8, rfl, hLo, g8⟩; have hT8 := hT7.out.gr (gd7.trans g8); have zt8 := hT8.o.lt; have hO8 := hO7.out.gr (gd7.trans g8); have zo8 := hO8.lt; have hR8 := hR7.out.gr (gd7.trans g8); have gW8 := gW7.trans (gd7.trans g8); replace hT8 := Lib.hid hT8; replace hO8 := Lib.hid hO8; replace hR8 := Lib.hid hR8; have hG8 := hG7.out.gr (gd7.trans g8); have zg8 := hG8.lt; replace hG8 := Lib.hid hG8; have m0 := hT8.out.o.cell (i := 0) (v := .slice T2.an T2.N.length T2.cn) rfl; have m1 := hT8.out.o.cell (i := 1) (v := .slice T2.ag T2.G.length T2.cg) rfl; have m2 := hT8.out.o.cell (i := 2) (v := .int .i64 T2.last) rfl; have m3 := hT8.out.o.cell (i := 3) (v := .int .i64 T2.now) rfl; have n0 := hO8.out.cell (i := 0) (v := .int .i64 o.kd) rfl; have n1 := hO8.out.cell (i := 1) (v := .int .i64 o.id) rfl; have n2 := hO8.out.cell (i := 2) (v := .int .i64 o.srv.k) rfl; have n3 := hO8.out.cell (i := 3) (v := .int .i64 o.srv.q) rfl; have n4 := hO8.out.cell (i := 4) (v := .int .i64 o.srv.t) rfl; have n5 := hO8.out.cell (i := 5) (v := .int .i64 o.pol) rfl; have n6 := hO8.out.cell (i := 6) (v := .slice oa o.tasks.length oc) rfl; have n7 := hO8.out.cell (i := 7) (v := .int .i64 o.at_) rfl; have q0 := hG8.out.cell (i := 0) (v := .int .i64 x.e.par) rfl; have q1 := hG8.out.cell (i := 1) (v := .int .i64 x.e.srv.k) rfl; have q2 := hG8.out.cell (i := 2) (v := .int .i64 x.e.srv.q) rfl; have q3 := hG8.out.cell (i := 3) (v := .int .i64 x.e.srv.t) rfl; have q4 := hG8.out.cell (i := 4) (v := .int .i64 0) rfl; have hPb8 := (hPb.out.gr gd7).gr g8; have pm0 := hPb8.cell (i := 0) (v := .int .i64 s.k) rfl; have pm1 := hPb8.cell (i := 1) (v := .int .i64 s.q) rfl; have pm2 := hPb8.cell (i := 2) (v := .int .i64 s.t) rfl; replace hPb8 := Lib.hid hPb8; replace hLo := Lib.hid hLo)
            | (go_at_call 121; (with_reducible refine (drain_no s a8 L k8 w8 (hE.gr gW8) i0 i1 i3 (owns_srvs hLo.out) (by unfold maxLen; omega) hk.out).mono ?_); rintro e w9 ⟨rfl, g9⟩; have hT9 := hT8.out.gr g9; have zt9 := hT9.o.lt; have hO9 := hO8.out.gr g9; have zo9 := hO9.lt; have hR9 := hR8.out.gr g9; have gW9 := gW8.trans g9; replace hT9 := Lib.hid hT9; replace hO9 := Lib.hid hO9; replace hR9 := Lib.hid hR9; have hG9 := hG8.out.gr g9; have zg9 := hG9.lt; replace hG9 := Lib.hid hG9; have x0 := hT9.out.o.cell (i := 0) (v := .slice T2.an T2.N.length T2.cn) rfl; have x1 := hT9.out.o.cell (i := 1) (v := .slice T2.ag T2.G.length T2.cg) rfl; have x2 := hT9.out.o.cell (i := 2) (v := .int .i64 T2.last) rfl; have x3 := hT9.out.o.cell (i := 3) (v := .int .i64 T2.now) rfl; have y0 := hO9.out.cell (i := 0) (v := .int .i64 o.kd) rfl; have y1 := hO9.out.cell (i := 1) (v := .int .i64 o.id) rfl; have y2 := hO9.out.cell (i := 2) (v := .int .i64 o.srv.k) rfl; have y3 := hO9.out.cell (i := 3) (v := .int .i64 o.srv.q) rfl; have y4 := hO9.out.cell (i := 4) (v := .int .i64 o.srv.t) rfl; have y5 := hO9.out.cell (i := 5) (v := .int .i64 o.pol) rfl; have y6 := hO9.out.cell (i := 6) (v := .slice oa o.tasks.length oc) rfl; have y7 := hO9.out.cell (i := 7) (v := .int .i64 o.at_) rfl; have z0 := hG9.out.cell (i := 0) (v := .int .i64 x.e.par) rfl; have z1 := hG9.out.cell (i := 1) (v := .int .i64 x.e.srv.k) rfl; have z2 := hG9.out.cell (i := 2) (v := .int .i64 x.e.srv.q) rfl; have z3 := hG9.out.cell (i := 3) (v := .int .i64 x.e.srv.t) rfl; have z4 := hG9.out.cell (i := 4) (v := .int .i64 0) rfl; have hPb9 := hPb8.out.gr g9; have pn0 := hPb9.cell (i := 0) (v := .int .i64 s.k) rfl; have pn1 := hPb9.cell (i := 1) (v := .int .i64 s.q) rfl; have pn2 := hPb9.cell (i := 2) (v := .int .i64 s.t) rfl; replace hPb9 := Lib.hid hPb9)
            | fail)
        clear c0 c1 c2 c3 o0 o1 o2 o3 o4 o5 o6 o7 g0 g1 g2 g3 g4
        clear m0 m1 m2 m3 n0 n1 n2 n3 n4 n5 n6 n7 q0 q1 q2 q3 q4
        clear x0 x1 x2 x3 y0 y1 y2 y3 y4 y5 y6 y7 z0 z1 z2 z3 z4 pc0 pc1 pc2 pm0 pm1 pm2 pn0 pn1 pn2
        have v1 := hO9.out.cell (i := 1) (v := .int .i64 o.id) rfl
        have r0 := hR9.out.cell (i := 0) (v := .int .i64 0) rfl
        have r1 := hR9.out.cell (i := 1) (v := .int .i64 0) rfl
        have rf := fun i => hR9.out.free i
        go_wp2_with fail
        have hRz : Blk ((w9.setCell ⟨w.heap.size + 1, 0, none⟩ (.int .i64 0)).setCell ⟨w.heap.size + 1, 1, none⟩ (.int .i64 o.id)) (w.heap.size + 1) #[.int .i64 0, .int .i64 o.id] 43 := (hR9.out.set 0 (.int .i64 0)).set 1 (.int .i64 o.id)
        have gx9 : GrX [w.heap.size + 1] w9 ((w9.setCell ⟨w.heap.size + 1, 0, none⟩ (.int .i64 0)).setCell ⟨w.heap.size + 1, 1, none⟩ (.int .i64 o.id)) := ((GrX.refl _ _).set (.inl (by simp)) _).set (.inl (by simp)) _
        have k0 := hRz.cell (i := 0) (v := .int .i64 0) rfl
        have k1 := hRz.cell (i := 1) (v := .int .i64 o.id) rfl
        refine bodyPost_ret (v := .agg #[.int .i64 0, .int .i64 o.id]) (by simp [results, Tryz.results99, go_sem, k0, k1]) rfl ?_
        have hVe : V = (T2.v, 0, o.id) := by
          rw [hV.out, hRE2.out]
          show ((⟨T2.N.map (·.e), T.G ++ [(⟨x.e.par, x.e.srv, 0⟩ : Gh)], T2.last, T2.now⟩ : TreeV), (0 : Int), o.id) = ((⟨T2.N.map (·.e), T2.G, T2.last, T2.now⟩ : TreeV), (0 : Int), o.id)
          rw [hG2.out, hG1.out]
        have hTB : ∀ z, z ∈ [w.heap.size + 1] → ¬ treeB tb T2 z := fun z hz ht => by
          rw [List.mem_singleton.1 hz] at ht
          rcases ht with ht | ht | ht | ⟨u, hu, ad, ha, htt, hab⟩
          · omega
          · exact owns_blk hT9.out.t.n hR9.out (by decide) ht
          · exact owns_blk hT9.out.t.g hR9.out (by decide) ht
          · rw [hN2.out] at hu
            have := (hbb.out u hu ad ha htt).1; omega
        rw [hVe]
        exact ⟨rfl, T2, hT9.out.away gx9 hTB, rfl, gx9.all gW9 (fun z hz => by rw [List.mem_singleton.1 hz]; omega)⟩
      | none =>
        obtain ⟨dd, hdd⟩ : ∃ dd, dd = drainI s L := ⟨_, rfl⟩
        have hddl : dd ≤ 4096 := by
          rw [hdd]
          unfold drainI
          cases hf : (List.range 4096).find? (fun (k : Nat) => decide (reqsI L ((k : Int) + 1) ≤ givI (rowI s) ((k : Int) + 1))) with
          | none => simp
          | some n =>
            have := List.mem_of_find?_eq_some hf
            simp at this ⊢
            omega
        replace hRE2 := hRE2.out
        rw [hk, if_pos rfl, ← hdd] at hRE2
        replace hRE2 := Lib.hid hRE2
        have hdm := fun (w3 : World) (a3 : Option Addr) (k3 : Nat) (gg : Gr W0 w3) (hl : SrvsAt w3 a3 L) => drain_min s a3 L k3 w3 (hE.gr gg) i0 i1 i3 hl (by unfold maxLen; omega) hk
        rw [← hdd] at hdm
        replace hdd := Lib.hid hdd
        replace hdm := Lib.hid hdm
        replace hk := Lib.hid hk
        go_region_held3 (fun w' => w'.cell? ⟨tb, 0, none⟩ = some (.slice T2.an T2.N.length T2.cn) ∧ w'.cell? ⟨tb, 1, none⟩ = some (.slice T2.ag T2.G.length T2.cg) ∧ w'.cell? ⟨tb, 2, none⟩ = some (.int .i64 T2.last) ∧ w'.cell? ⟨tb, 3, none⟩ = some (.int .i64 T2.now) ∧ w'.cell? ⟨w.heap.size, 0, none⟩ = some (.int .i64 o.kd) ∧ w'.cell? ⟨w.heap.size, 1, none⟩ = some (.int .i64 o.id) ∧ w'.cell? ⟨w.heap.size, 2, none⟩ = some (.int .i64 o.srv.k) ∧ w'.cell? ⟨w.heap.size, 3, none⟩ = some (.int .i64 o.srv.q) ∧ w'.cell? ⟨w.heap.size, 4, none⟩ = some (.int .i64 o.srv.t) ∧ w'.cell? ⟨w.heap.size, 5, none⟩ = some (.int .i64 o.pol) ∧ w'.cell? ⟨w.heap.size, 6, none⟩ = some (.slice oa o.tasks.length oc) ∧ w'.cell? ⟨w.heap.size, 7, none⟩ = some (.int .i64 o.at_) ∧ w'.cell? ⟨gb, 0, none⟩ = some (.int .i64 x.e.par) ∧ w'.cell? ⟨gb, 1, none⟩ = some (.int .i64 x.e.srv.k) ∧ w'.cell? ⟨gb, 2, none⟩ = some (.int .i64 x.e.srv.q) ∧ w'.cell? ⟨gb, 3, none⟩ = some (.int .i64 x.e.srv.t) ∧ w'.cell? ⟨gb, 4, none⟩ = some (.int .i64 0) ∧ w'.cell? ⟨pb, 0, none⟩ = some (.int .i64 s.k) ∧ w'.cell? ⟨pb, 1, none⟩ = some (.int .i64 s.q) ∧ w'.cell? ⟨pb, 2, none⟩ = some (.int .i64 s.t)) (simp (maxDischargeDepth := 8) [go_sem, *])
          (first
            | (go_at_call 115; (with_reducible refine hcn.out.mono ?_); rintro e w8 ⟨a8, k8, rfl, hLo, g8⟩; have hT8 := hT7.out.gr (gd7.trans g8); have zt8 := hT8.o.lt; have hO8 := hO7.out.gr (gd7.trans g8); have zo8 := hO8.lt; have hR8 := hR7.out.gr (gd7.trans g8); have gW8 := gW7.trans (gd7.trans g8); replace hT8 := Lib.hid hT8; replace hO8 := Lib.hid hO8; replace hR8 := Lib.hid hR8; have hG8 := hG7.out.gr (gd7.trans g8); have zg8 := hG8.lt; replace hG8 := Lib.hid hG8; have m0 := hT8.out.o.cell (i := 0) (v := .slice T2.an T2.N.length T2.cn) rfl; have m1 := hT8.out.o.cell (i := 1) (v := .slice T2.ag T2.G.length T2.cg) rfl; have m2 := hT8.out.o.cell (i := 2) (v := .int .i64 T2.last) rfl; have m3 := hT8.out.o.cell (i := 3) (v := .int .i64 T2.now) rfl; have n0 := hO8.out.cell (i := 0) (v := .int .i64 o.kd) rfl; have n1 := hO8.out.cell (i := 1) (v := .int .i64 o.id) rfl; have n2 := hO8.out.cell (i := 2) (v := .int .i64 o.srv.k) rfl; have n3 := hO8.out.cell (i := 3) (v := .int .i64 o.srv.q) rfl; have n4 := hO8.out.cell (i := 4) (v := .int .i64 o.srv.t) rfl; have n5 := hO8.out.cell (i := 5) (v := .int .i64 o.pol) rfl; have n6 := hO8.out.cell (i := 6) (v := .slice oa o.tasks.length oc) rfl; have n7 := hO8.out.cell (i := 7) (v := .int .i64 o.at_) rfl; have q0 := hG8.out.cell (i := 0) (v := .int .i64 x.e.par) rfl; have q1 := hG8.out.cell (i := 1) (v := .int .i64 x.e.srv.k) rfl; have q2 := hG8.out.cell (i := 2) (v := .int .i64 x.e.srv.q) rfl; have q3 := hG8.out.cell (i := 3) (v := .int .i64 x.e.srv.t) rfl; have q4 := hG8.out.cell (i := 4) (v := .int .i64 0) rfl; have hPb8 := (hPb.out.gr gd7).gr g8; have pm0 := hPb8.cell (i := 0) (v := .int .i64 s.k) rfl; have pm1 := hPb8.cell (i := 1) (v := .int .i64 s.q) rfl; have pm2 := hPb8.cell (i := 2) (v := .int .i64 s.t) rfl; replace hPb8 := Lib.hid hPb8; replace hLo := Lib.hid hLo)
            | (go_at_call 121; (with_reducible refine (hdm.out w8 a8 k8 gW8 (owns_srvs hLo.out)).mono ?_); rintro e w9 ⟨rfl, g9⟩; have hT9 := hT8.out.gr g9; have zt9 := hT9.o.lt; have hO9 := hO8.out.gr g9; have zo9 := hO9.lt; have hR9 := hR8.out.gr g9; have gW9 := gW8.trans g9; replace hT9 := Lib.hid hT9; replace hO9 := Lib.hid hO9; replace hR9 := Lib.hid hR9; have hG9 := hG8.out.gr g9; have zg9 := hG9.lt; replace hG9 := Lib.hid hG9; have x0 := hT9.out.o.cell (i := 0) (v := .slice T2.an T2.N.length T2.cn) rfl; have x1 := hT9.out.o.cell (i := 1) (v := .slice T2.ag T2.G.length T2.cg) rfl; have x2 := hT9.out.o.cell (i := 2) (v := .int .i64 T2.last) rfl; have x3 := hT9.out.o.cell (i := 3) (v := .int .i64 T2.now) rfl; have y0 := hO9.out.cell (i := 0) (v := .int .i64 o.kd) rfl; have y1 := hO9.out.cell (i := 1) (v := .int .i64 o.id) rfl; have y2 := hO9.out.cell (i := 2) (v := .int .i64 o.srv.k) rfl; have y3 := hO9.out.cell (i := 3) (v := .int .i64 o.srv.q) rfl; have y4 := hO9.out.cell (i := 4) (v := .int .i64 o.srv.t) rfl; have y5 := hO9.out.cell (i := 5) (v := .int .i64 o.pol) rfl; have y6 := hO9.out.cell (i := 6) (v := .slice oa o.tasks.length oc) rfl; have y7 := hO9.out.cell (i := 7) (v := .int .i64 o.at_) rfl; have z0 := hG9.out.cell (i := 0) (v := .int .i64 x.e.par) rfl; have z1 := hG9.out.cell (i := 1) (v := .int .i64 x.e.srv.k) rfl; have z2 := hG9.out.cell (i := 2) (v := .int .i64 x.e.srv.q) rfl; have z3 := hG9.out.cell (i := 3) (v := .int .i64 x.e.srv.t) rfl; have z4 := hG9.out.cell (i := 4) (v := .int .i64 0) rfl; have hPb9 := hPb8.out.gr g9; have pn0 := hPb9.cell (i := 0) (v := .int .i64 s.k) rfl; have pn1 := hPb9.cell (i := 1) (v := .int .i64 s.q) rfl; have pn2 := hPb9.cell (i := 2) (v := .int .i64 s.t) rfl; replace hPb9 := Lib.hid hPb9)
            | fail)
        clear c0 c1 c2 c3 o0 o1 o2 o3 o4 o5 o6 o7 g0 g1 g2 g3 g4
        clear m0 m1 m2 m3 n0 n1 n2 n3 n4 n5 n6 n7 q0 q1 q2 q3 q4
        clear x0 x1 x2 x3 y0 y1 y2 y3 y4 y5 y6 y7 z0 z1 z2 z3 z4 pc0 pc1 pc2 pm0 pm1 pm2 pn0 pn1 pn2
        have c0 := hT9.out.o.cell (i := 0) (v := .slice T2.an T2.N.length T2.cn) rfl
        have c1 := hT9.out.o.cell (i := 1) (v := .slice T2.ag T2.G.length T2.cg) rfl
        have c2 := hT9.out.o.cell (i := 2) (v := .int .i64 T2.last) rfl
        have c3 := hT9.out.o.cell (i := 3) (v := .int .i64 T2.now) rfl
        have hGl2 : T2.G.length = T1.G.length + 1 := by rw [hG2.out]; simp
        obtain ⟨gg, hag⟩ : ∃ gg, T2.ag = some ⟨gg, 0, none⟩ := by
          rcases hT9.out.t.g.2 with ⟨h1, h2⟩ | ⟨gg, cap, cur, h1, _⟩
          · omega
          · injection h1 with h1; exact ⟨gg, h1⟩
        have hOg := hT9.out.t.g
        rw [hag] at hOg
        have ff : ∀ o, w9.frozen? ⟨gg, o, none⟩ = false := fun o => by
          rcases hOg.2 with ⟨h1, _⟩ | ⟨g', cap, cur, h1, _, hh, _⟩
          · cases h1
          · injection h1 with h1 _ _; cases h1; simp [World.frozen?, hh]
        rw [hag] at c1
        have hgx : T2.G[T1.G.length]? = some (⟨x.e.par, x.e.srv, 0⟩ : Gh) := by rw [hG2.out]; simp
        obtain ⟨gq1, gq2, gq3, hgl9, gq6, d0, d1, d2, d3, d4⟩ := gh_get hT9.out.t.at.g hgx
        rw [hag] at gq3
        cases gq3
        simp only [Nat.zero_add] at d0 d1 d2 d3 d4
        clear d0 d1 d2 d3
        have hix : IntKind.i64.wrap ((T2.G.length : Int) - 1) = (T1.G.length : Int) := by rw [IntKind.wrap_i64] <;> omega
        have hlx : (T1.G.length : Int) < (T2.G.length : Int) := by omega
        have hwr : IntKind.i64.wrap (T2.now + (dd : Int)) = T2.now + dd := by have := hno2.out; rw [IntKind.wrap_i64] <;> omega
        have hgt : gg ≠ tb := fun e => owns_blk hOg hT9.out.o (by decide) (by rw [e]; rfl)
        replace hag := Lib.hid hag
        replace hOg := Lib.hid hOg
        replace hgx := Lib.hid hgx
        replace hGl2 := Lib.hid hGl2
        go_wp2_with fail
        refine wp_region_Z 18 (fun w' => w'.cell? ⟨tb, 0, none⟩ = some (.slice T2.an T2.N.length T2.cn) ∧ w'.cell? ⟨tb, 1, none⟩ = some (.slice (some ⟨gg, 0, none⟩) T2.G.length T2.cg) ∧ w'.cell? ⟨tb, 2, none⟩ = some (.int .i64 T2.last) ∧ w'.cell? ⟨tb, 3, none⟩ = some (.int .i64 T2.now)) (by kernel_rfl) ?_
        have hS0 : (fun w' => w'.cell? ⟨tb, 0, none⟩ = some (.slice T2.an T2.N.length T2.cn) ∧ w'.cell? ⟨tb, 1, none⟩ = some (.slice (some ⟨gg, 0, none⟩) T2.G.length T2.cg) ∧ w'.cell? ⟨tb, 2, none⟩ = some (.int .i64 T2.last) ∧ w'.cell? ⟨tb, 3, none⟩ = some (.int .i64 T2.now)) w9.drew := ⟨c0, c1, c2, c3⟩
        refine wpAnyZ_take (i := 0) (v := ?va0) rfl (by kernel_rfl) (by kernel_rfl) (by kernel_rfl) (by kernel_rfl) (fun _ _ _ h => h) (by rfl) ?ya0 hS0 ?ra0
        case ya0 => (intro w hSw; (try dsimp only at hSw); go_simp; try with_reducible rfl)
        try simp only [Act.put, List.setIfInBounds_toArray]
        refine wpAnyZ_take (i := 1) (v := ?va1) rfl (by kernel_rfl) (by kernel_rfl) (by kernel_rfl) (by kernel_rfl) (fun _ _ _ h => h) (by rfl) ?ya1 hS0 ?ra1
        case ya1 => (intro w hSw; (try dsimp only at hSw); go_simp; try with_reducible rfl)
        try simp only [Act.put]
        refine wpAnyZ_take (i := 2) (v := ?va2) rfl (by kernel_rfl) (by kernel_rfl) (by kernel_rfl) (by kernel_rfl) (fun _ _ _ h => h) (by rfl) ?ya2 hS0 ?ra2
        case ya2 => (intro w hSw; (try dsimp only at hSw); go_simp; try with_reducible rfl)
        try simp only [Act.put]
        refine wpAnyZ_take (i := 3) (v := ?va3) rfl (by kernel_rfl) (by kernel_rfl) (by kernel_rfl) (by kernel_rfl) (fun _ _ _ h => h) (by rfl) ?ya3 hS0 ?ra3
        case ya3 => (intro w hSw; (try dsimp only at hSw); go_simp; try with_reducible rfl)
        try simp only [Act.put]
        refine wpAnyZ_take (i := 4) (v := ?va4) rfl (by kernel_rfl) (by kernel_rfl) (by kernel_rfl) (by kernel_rfl) (fun _ _ _ h => h) (by rfl) ?ya4 hS0 ?ra4
        case ya4 => (intro w hSw; (try dsimp only at hSw); go_simp; try with_reducible rfl)
        try simp only [Act.put]
        refine wpAnyZ_take (i := 5) (v := ?va5) rfl (by kernel_rfl) (by kernel_rfl) (by kernel_rfl) (by kernel_rfl) (fun _ _ _ h => h) (by rfl) ?ya5 hS0 ?ra5
        case ya5 => (intro w hSw; (try dsimp only at hSw); go_simp; try with_reducible rfl)
        try simp only [Act.put]
        refine wpAnyZ_take (i := 6) (v := ?va6) rfl (by kernel_rfl) (by kernel_rfl) (by kernel_rfl) (by kernel_rfl) (fun _ _ _ h => h) (by rfl) ?ya6 hS0 ?ra6
        case ya6 => (intro w hSw; (try dsimp only at hSw); go_simp; try with_reducible rfl)
        try simp only [Act.put]
        refine wpAnyZ_take (i := 7) (v := ?va7) rfl (by kernel_rfl) (by kernel_rfl) (by kernel_rfl) (by kernel_rfl) (fun _ _ _ h => h) (by rfl) ?ya7 hS0 ?ra7
        case ya7 => (intro w hSw; (try dsimp only at hSw); go_simp; try with_reducible rfl)
        try simp only [Act.put]
        refine wpAnyZ_take (i := 8) (v := ?va8) rfl (by kernel_rfl) (by kernel_rfl) (by kernel_rfl) (by kernel_rfl) (fun _ _ _ h => h) (by rfl) ?ya8 hS0 ?ra8
        case ya8 => (intro w hSw; (try dsimp only at hSw); go_simp; try with_reducible rfl)
        try simp only [Act.put]
        refine wpAnyZ_take (i := 9) (v := ?va9) rfl (by kernel_rfl) (by kernel_rfl) (by kernel_rfl) (by kernel_rfl) (fun _ _ _ h => h) (by rfl) ?ya9 hS0 ?ra9
        case ya9 => (intro w hSw; (try dsimp only at hSw); go_simp; try with_reducible rfl)
        try simp only [Act.put]
        refine wpAnyZ_take (i := 10) (v := ?va10) rfl (by kernel_rfl) (by kernel_rfl) (by kernel_rfl) (by kernel_rfl) (fun _ _ _ h => h) (by rfl) ?ya10 hS0 ?ra10
        case ya10 => (intro w hSw; (try dsimp only at hSw); go_simp; try with_reducible rfl)
        try simp only [Act.put]
        refine wpAnyZ_take (i := 11) (v := ?va11) rfl (by kernel_rfl) (by kernel_rfl) (by kernel_rfl) (by kernel_rfl) (fun _ _ _ h => h) (by rfl) ?ya11 hS0 ?ra11
        case ya11 => (intro w hSw; (try dsimp only at hSw); go_simp; try with_reducible rfl)
        try simp only [Act.put]
        refine wpAnyZ_take (i := 12) (v := ?va12) rfl (by kernel_rfl) (by kernel_rfl) (by kernel_rfl) (by kernel_rfl) (fun _ _ _ h => h) (by rfl) ?ya12 hS0 ?ra12
        case ya12 => (intro w hSw; (try dsimp only at hSw); go_simp; try with_reducible rfl)
        try simp only [Act.put]
        refine wpAnyZ_take (i := 13) (v := ?va13) rfl (by kernel_rfl) (by kernel_rfl) (by kernel_rfl) (by kernel_rfl) (fun _ _ _ h => h) (by rfl) ?ya13 hS0 ?ra13
        case ya13 => (intro w hSw; (try dsimp only at hSw); go_simp; try with_reducible rfl)
        try simp only [Act.put]
        refine wpAnyZ_take (i := 14) (v := ?va14) rfl (by kernel_rfl) (by kernel_rfl) (by kernel_rfl) (by kernel_rfl) (fun _ _ _ h => h) (by rfl) ?ya14 hS0 ?ra14
        case ya14 => (intro w hSw; (try dsimp only at hSw); go_simp; try with_reducible rfl)
        try simp only [Act.put]
        refine wpAnyZ_take (i := 15) (v := ?va15) rfl (by kernel_rfl) (by kernel_rfl) (by kernel_rfl) (by kernel_rfl) (fun _ _ _ h => h) (by rfl) ?ya15 hS0 ?ra15
        case ya15 => (intro w hSw; (try dsimp only at hSw); go_simp; try with_reducible rfl)
        try simp only [Act.put]
        refine wpAnyZ_one (i := 16) (by kernel_rfl) rfl (fun K hK => ?_)
        go_simp
        refine hK.out _ _ (fun _ => hS0) ?_
        clear hK K
        try simp only [Act.put, List.setIfInBounds_toArray, List.set_cons_zero, List.set_cons_succ]
        refine wpAnyZ_one (i := 17) (by kernel_rfl) rfl (fun K hK => ?_)
        go_simp
        refine hK.out _ _ (fun _ => hS0) ?_
        clear hK K
        try simp only [Act.put, List.setIfInBounds_toArray, List.set_cons_zero, List.set_cons_succ]
        clear hS0
        refine wpAnyZ_one (i := 18) (by kernel_rfl) rfl (fun K hK => ?_)
        go_simp
        refine hK.out _ _ (fun h => absurd rfl h) ?_
        clear hK K
        try simp only [Act.put, List.setIfInBounds_toArray, List.set_cons_zero, List.set_cons_succ]
        refine wpAnyZ_done (by kernel_rfl) ?_ _
        refine NoPanic.normal ?_
        obtain ⟨w10, hw10⟩ : ∃ w10, w10 = (w9.setCell ⟨gg, T1.G.length * 5 + 4, none⟩ (.int .i64 (T2.now + dd))).drew := ⟨_, rfl⟩
        rw [← hw10]
        have gx : GrX [gg] w9 w10 := by rw [hw10]; exact ((GrX.refl _ _).set (.inl (by simp)) _).drew
        obtain ⟨y, hy⟩ : ∃ y : Gh, y = ⟨x.e.par, x.e.srv, T.now + dd⟩ := ⟨_, rfl⟩
        obtain ⟨T3, hT3⟩ : ∃ T3 : TM, T3 = ⟨T2.N, T2.an, T2.cn, T2.G.set T1.G.length y, T2.ag, T2.cg, T2.last, T2.now⟩ := ⟨_, rfl⟩
        have hl3 : (T2.G.set T1.G.length y).length = T2.G.length := List.length_set ..
        have hO3 : w10.ownsRow B 65 5 (.slice T2.ag (T2.G.set T1.G.length y).length T2.cg) (T2.G.set T1.G.length y).length ((T2.G.set T1.G.length y).flatMap Gh.cells) := by
          have h1 := owns_gr (owns_set hOg.out (T1.G.length * 5 + 4) (.int .i64 (T2.now + dd))) ((Gr.refl _).drew)
          rw [flat_set Gh.cells_len hgx.out (y := y) (by decide) (by rw [hy, hno2.out]; rfl)] at h1
          rw [hl3, hag.out, hw10]
          exact h1
        have hT10 : OutAt B w10 tb T3 := by
          have hins : ∀ k, k ∈ [gg] → (Value.slice T2.ag T2.G.length T2.cg).ownBlock = some k := fun k hk => by rw [List.mem_singleton.1 hk, hag.out]; rfl
          rw [hT3]
          refine ⟨?_, hT9.out.t.ghosts gx (fun k hk hm => owns_apart hT9.out.t.n hT9.out.t.g (by decide) hk (hins k hm)) (fun z hz ad ha ht hm => hT9.out.t.dg z hz ad ha ht (hins _ hm)) _ _ hO3 (fun z hz ad ha ht => ?_) (by rw [hl3]; exact hT9.out.t.l2), hBt, hT9.out.b⟩
          · have h1 := hT9.out.o.grx gx (by simpa using hgt.symm)
            dsimp only [TM.row] at h1 ⊢
            rw [hl3]
            exact h1
          · rw [hl3]; exact hT9.out.t.dg z hz ad ha ht
        have hno9 : (w.heap.size : Nat) ∉ [gg] := fun hm => owns_blk hOg.out hO9.out (by decide) (by rw [List.mem_singleton.1 hm]; rfl)
        have hnr9 : (w.heap.size + 1 : Nat) ∉ [gg] := fun hm => owns_blk hOg.out hR9.out (by decide) (by rw [List.mem_singleton.1 hm]; rfl)
        have hO10 := hO9.out.grx gx hno9
        have hR10 := hR9.out.grx gx hnr9
        have gW10 : Gr W0 w10 := gx.all gW9 (fun z hz => by rw [List.mem_singleton.1 hz]; have := (owns_lt hOg.out gg rfl).2; omega)
        have hN3 : T3.N = T1.N := by rw [hT3]; exact hN2.out
        have hT3v : T3.v = {T.v with nodes := T.v.nodes.filter fun x => decide (x.id ≠ o.id), ghosts := T.v.ghosts ++ [y]} := by
          have hGs : T2.G.set T1.G.length y = T.G ++ [y] := by rw [hG2.out, ← hG1.out]; simp
          rw [hT3]
          show (⟨T2.N.map (·.e), T2.G.set T1.G.length y, T2.last, T2.now⟩ : TreeV) = ⟨T.v.nodes.filter fun x => decide (x.id ≠ o.id), T.G ++ [y], T.last, T.now⟩
          rw [hN2.out, hN1.out, hGs, hla2.out, hno2.out]
        clear c0 c1 c2 c3 d4 ff
        replace hw10 := Lib.hid hw10
        replace hy := Lib.hid hy
        replace hT3 := Lib.hid hT3
        replace hO3 := Lib.hid hO3
        replace hT10 := Lib.hid hT10
        replace hO10 := Lib.hid hO10
        replace hR10 := Lib.hid hR10
        replace hN3 := Lib.hid hN3
        replace hT3v := Lib.hid hT3v
        replace gx := Lib.hid gx
        replace hno9 := Lib.hid hno9
        replace hnr9 := Lib.hid hnr9
        have v1 := hO10.out.cell (i := 1) (v := .int .i64 o.id) rfl
        have r0 := hR10.out.cell (i := 0) (v := .int .i64 0) rfl
        have r1 := hR10.out.cell (i := 1) (v := .int .i64 0) rfl
        have rf := fun i => hR10.out.free i
        go_wp2_with fail
        have hRz : Blk ((w10.setCell ⟨w.heap.size + 1, 0, none⟩ (.int .i64 0)).setCell ⟨w.heap.size + 1, 1, none⟩ (.int .i64 o.id)) (w.heap.size + 1) #[.int .i64 0, .int .i64 o.id] 43 := (hR10.out.set 0 (.int .i64 0)).set 1 (.int .i64 o.id)
        have gx9 : GrX [w.heap.size + 1] w10 ((w10.setCell ⟨w.heap.size + 1, 0, none⟩ (.int .i64 0)).setCell ⟨w.heap.size + 1, 1, none⟩ (.int .i64 o.id)) := ((GrX.refl _ _).set (.inl (by simp)) _).set (.inl (by simp)) _
        have k0 := hRz.cell (i := 0) (v := .int .i64 0) rfl
        have k1 := hRz.cell (i := 1) (v := .int .i64 o.id) rfl
        refine bodyPost_ret (v := .agg #[.int .i64 0, .int .i64 o.id]) (by simp [results, Tryz.results99, go_sem, k0, k1]) rfl ?_
        have hVe : V = (T3.v, 0, o.id) := by
          rw [hV.out, hRE2.out, hT3v.out, hy.out]
          show ((⟨T2.N.map (·.e), T.G ++ [(⟨x.e.par, x.e.srv, T.now + dd⟩ : Gh)], T2.last, T2.now⟩ : TreeV), (0 : Int), o.id) = ((⟨T.v.nodes.filter fun x => decide (x.id ≠ o.id), T.G ++ [(⟨x.e.par, x.e.srv, T.now + dd⟩ : Gh)], T.last, T.now⟩ : TreeV), (0 : Int), o.id)
          rw [hN2.out, hN1.out, hla2.out, hno2.out]
        have hTB : ∀ z, z ∈ [w.heap.size + 1] → ¬ treeB tb T3 z := fun z hz ht => by
          rw [List.mem_singleton.1 hz] at ht
          rcases ht with ht | ht | ht | ⟨u, hu, ad, ha, htt, hab⟩
          · omega
          · exact owns_blk hT10.out.t.n hR10.out (by decide) ht
          · exact owns_blk hT10.out.t.g hR10.out (by decide) ht
          · rw [hN3.out] at hu
            have := (hbb.out u hu ad ha htt).1; omega
        rw [hVe]
        exact ⟨rfl, T3, hT10.out.away gx9 hTB, rfl, gx9.all gW10 (fun z hz => by rw [List.mem_singleton.1 hz]; omega)⟩
end Go.Proofs.YtglfdnfojpdkjaaGreatDoor
