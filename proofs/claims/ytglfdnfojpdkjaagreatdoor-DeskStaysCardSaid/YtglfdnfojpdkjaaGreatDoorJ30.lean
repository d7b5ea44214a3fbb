/- A ghost more; a node written over. -/
import Derived.Test.YtglfdnfojpdkjaaGreatDoorJ29
namespace Go.Proofs.YtglfdnfojpdkjaaGreatDoor
open Go.RowKit

/-- A ghost more. -/
theorem own_snocG {B : Nat} {wz w' : World} {T : TM} {y : Gh} {a : Option Addr} {c : Nat} (h : OwnT B wz T) (hG : w'.ownsRow B 65 5 (.slice a (T.G ++ [y]).length c) (T.G ++ [y]).length ((T.G ++ [y]).flatMap Gh.cells)) (hg : wz.grownBy w' (Value.slice T.ag T.G.length T.cg).ownBlock) (hat : (Value.slice a (T.G ++ [y]).length c).ownBlock = (Value.slice T.ag T.G.length T.cg).ownBlock ∨ (Value.slice a (T.G ++ [y]).length c).ownBlock = some wz.heap.size) (hl : T.G.length + 1 ≤ 1000000) : OwnT B w' ⟨T.N, T.an, T.cn, T.G ++ [y], a, c, T.last, T.now⟩ := by
  have gx : GrX (Value.slice T.ag T.G.length T.cg).ownBlock.toList wz w' := ⟨hg.os, hg.tape, hg.output, hg.size, fun k hk hn => hg.block k hk (fun e => hn (by rw [← e]; simp))⟩
  have hin : ∀ k, k ∈ (Value.slice T.ag T.G.length T.cg).ownBlock.toList → (Value.slice T.ag T.G.length T.cg).ownBlock = some k := fun k hk => by simpa using hk
  refine h.ghosts gx (fun k hk hm => owns_apart h.g h.n (by decide) (hin k hm) hk) (fun x hx ad ha ht hm => h.dg x hx ad ha ht (hin _ hm)) _ _ hG (fun x hx ad ha ht => ?_) (by simp; omega)
  rcases hat with h1 | h1
  · rw [h1]; exact h.dg x hx ad ha ht
  · rw [h1]
    intro e
    have := Option.some.inj e
    have := (h.k x hx).1.1.lt ha ht
    omega
/-- A node written over. -/
theorem own_setN {B : Nat} {w w' : World} {T : TM} {nb i : Nat} {y : NdM} (h : OwnT B w T) (hnb : T.an = some ⟨nb, 0, none⟩) (g : GrX [nb] w w') (hN : w'.ownsRow B 90 7 (.slice T.an T.N.length T.cn) T.N.length ((T.N.set i y).flatMap NdM.cells)) (hk : y.ok (fun b => B ≤ b) w') (hq : ∀ ad, y.a = some ad → y.e.tasks ≠ [] → (Value.slice T.an T.N.length T.cn).ownBlock ≠ some ad.block ∧ (Value.slice T.ag T.G.length T.cg).ownBlock ≠ some ad.block ∧ ∀ o, w'.frozen? ⟨ad.block, o, none⟩ = false) : OwnT B w' ⟨T.N.set i y, T.an, T.cn, T.G, T.ag, T.cg, T.last, T.now⟩ := by
  have hob : (Value.slice T.an T.N.length T.cn).ownBlock = some nb := by rw [hnb]; rfl
  have hd : ∀ x ∈ T.N, ∀ ad, x.a = some ad → x.e.tasks ≠ [] → ad.block ∉ [nb] := fun x hx ad ha ht hm => h.d x hx ad ha ht (by rw [hob, List.mem_singleton.1 hm])
  refine ⟨by dsimp only; rw [List.length_set]; exact hN, owns_gx h.g g (fun k hk2 hm => owns_apart h.n h.g (by decide) (by rw [hob, List.mem_singleton.1 hm]) hk2), fun x hx => ?_, fun x hx ad ha ht => ?_, fun x hx ad ha ht => ?_, fun x hx ad ha ht o => ?_, by dsimp only; rw [List.length_set]; exact h.l1, h.l2⟩
  · rcases List.mem_or_eq_of_mem_set hx with hx | rfl
    · exact (h.k x hx).but g (hd x hx)
    · exact hk
  · show (Value.slice T.an (T.N.set i y).length T.cn).ownBlock ≠ _
    rw [List.length_set]
    rcases List.mem_or_eq_of_mem_set hx with hx | rfl
    · exact h.d x hx ad ha ht
    · exact (hq ad ha ht).1
  · rcases List.mem_or_eq_of_mem_set hx with hx | rfl
    · exact h.dg x hx ad ha ht
    · exact (hq ad ha ht).2.1
  · rcases List.mem_or_eq_of_mem_set hx with hx | rfl
    · rw [g.frozen ((h.k x hx).1.1.lt ha ht) (hd x hx ad ha ht)]
      exact h.f x hx ad ha ht o
    · exact (hq ad ha ht).2.2 o
/-- A node's server, written over. -/
theorem own_srv {B : Nat} {w : World} {T : TM} {nb i : Nat} {x : NdM} (h : OwnT B w T) (hnb : T.an = some ⟨nb, 0, none⟩) (hx : T.N[i]? = some x) (s : Srv) {w' : World} (hw : w' = ((w.setCell ⟨nb, i * 7 + 2, none⟩ (.int .i64 s.k)).setCell ⟨nb, i * 7 + 3, none⟩ (.int .i64 s.q)).setCell ⟨nb, i * 7 + 4, none⟩ (.int .i64 s.t)) : GrX [nb] w w' ∧ OwnT B w' ⟨T.N.set i ⟨{x.e with srv := s}, x.a, x.c⟩, T.an, T.cn, T.G, T.ag, T.cg, T.last, T.now⟩ := by
  have g : GrX [nb] w w' := by rw [hw]; exact (((GrX.refl _ _).set (.inl (by simp)) _).set (.inl (by simp)) _).set (.inl (by simp)) _
  have hm := List.mem_of_getElem? hx
  have hob : (Value.slice T.an T.N.length T.cn).ownBlock = some nb := by rw [hnb]; rfl
  have hd : ∀ ad, x.a = some ad → x.e.tasks ≠ [] → ad.block ∉ [nb] := fun ad ha ht hm2 => h.d x hm ad ha ht (by rw [hob, List.mem_singleton.1 hm2])
  have hi := get_lt hx
  refine ⟨g, own_setN h hnb g ?_ ((h.k x hm).but g hd) (fun ad ha ht => ⟨h.d x hm ad ha ht, h.dg x hm ad ha ht, fun o => by rw [g.frozen ((h.k x hm).1.1.lt ha ht) (hd ad ha ht)]; exact h.f x hm ad ha ht o⟩)⟩
  have h0 := h.n
  rw [hnb] at h0 ⊢
  have h3 := owns_set (owns_set (owns_set h0 (i * 7 + 2) (.int .i64 s.k)) (i * 7 + 3) (.int .i64 s.q)) (i * 7 + 4) (.int .i64 s.t)
  rw [hw]
  have e1 := flat_set NdM.cells_len hx (j := 2) (by decide) (v := .int .i64 s.k) (y := ⟨{x.e with srv := ⟨s.k, x.e.srv.q, x.e.srv.t⟩}, x.a, x.c⟩) rfl
  have e2 := flat_set (M := T.N.set i ⟨{x.e with srv := ⟨s.k, x.e.srv.q, x.e.srv.t⟩}, x.a, x.c⟩) NdM.cells_len (List.getElem?_set_self hi) (j := 3) (by decide) (v := .int .i64 s.q) (y := ⟨{x.e with srv := ⟨s.k, s.q, x.e.srv.t⟩}, x.a, x.c⟩) rfl
  rw [List.set_set] at e2
  have e3 := flat_set (M := T.N.set i ⟨{x.e with srv := ⟨s.k, s.q, x.e.srv.t⟩}, x.a, x.c⟩) NdM.cells_len (List.getElem?_set_self hi) (j := 4) (by decide) (v := .int .i64 s.t) (y := ⟨{x.e with srv := s}, x.a, x.c⟩) rfl
  rw [List.set_set] at e3
  rw [e1, e2, e3] at h3
  exact h3
theorem srt_set {N : List NdM} (hs : Srt N) {i : Nat} {x y : NdM} (hx : N[i]? = some x) (h : y.e.id = x.e.id) : Srt (N.set i y) := by
  have key : ∀ (j : Nat) (z : NdM), (N.set i y)[j]? = some z → ∃ z', N[j]? = some z' ∧ z'.e.id = z.e.id := by
    intro j z hz
    rw [List.getElem?_set] at hz
    by_cases hj : i = j
    · subst hj
      rw [if_pos rfl, if_pos (get_lt hx)] at hz
      obtain rfl := Option.some.inj hz
      exact ⟨x, hx, h.symm⟩
    · rw [if_neg hj] at hz
      exact ⟨z, hz, rfl⟩
  intro j k u v hu hv hjk
  obtain ⟨u', hu', e1⟩ := key j u hu
  obtain ⟨v', hv', e2⟩ := key k v hv
  have := hs j k u' v' hu' hv' hjk
  omega
theorem set_nd {N : List NdM} (hs : Srt N) {i : Nat} {x y : NdM} {id : Int} {f : Nd → Nd} (hx : N[i]? = some x) (hid : x.e.id = id) (hy : y.e = f x.e) : (N.set i y).map (·.e) = setNd (N.map (·.e)) id f := by
  apply List.ext_getElem?
  intro j
  unfold setNd
  rw [List.getElem?_map, List.getElem?_map, List.getElem?_map, List.getElem?_set]
  by_cases hj : i = j
  · subst hj
    rw [if_pos rfl, if_pos (get_lt hx), hx]
    show some y.e = some (if x.e.id = id then f x.e else x.e)
    rw [if_pos hid, hy]
  · rw [if_neg hj]
    cases hz : N[j]? with
    | none => rfl
    | some z =>
      have : z.e.id ≠ id := fun e => hj (srt_inj hs hx hz (hid.trans e.symm))
      show some z.e = some (if z.e.id = id then f z.e else z.e)
      rw [if_neg this]
end Go.Proofs.YtglfdnfojpdkjaaGreatDoor
/- tree.resize. Printed by gen_t22.py. -/
namespace Go.Proofs.YtglfdnfojpdkjaaGreatDoor
open Go.RowKit

/-- The cells of a node in a row of one's own. -/
theorem nd_at {w : World} {B : Nat} {T : TM} {nb i : Nat} {x : NdM} (h : OwnT B w T) (hnb : T.an = some ⟨nb, 0, none⟩) (hx : T.N[i]? = some x) :
    nb < w.heap.size ∧ w.cell? ⟨nb, i * 7, none⟩ = some (.int .i64 x.e.id) ∧ w.cell? ⟨nb, i * 7 + 1, none⟩ = some (.int .i64 x.e.par) ∧ w.cell? ⟨nb, i * 7 + 2, none⟩ = some (.int .i64 x.e.srv.k) ∧ w.cell? ⟨nb, i * 7 + 3, none⟩ = some (.int .i64 x.e.srv.q) ∧ w.cell? ⟨nb, i * 7 + 4, none⟩ = some (.int .i64 x.e.srv.t) ∧ w.cell? ⟨nb, i * 7 + 5, none⟩ = some (.int .i64 x.e.pol) ∧ w.cell? ⟨nb, i * 7 + 6, none⟩ = some (.slice x.a x.e.tasks.length x.c) := by
  have h1 := (recs_of_owns NdM.cells_len h.n)
  obtain ⟨a1, c1, e1, r1, _, _⟩ := h1
  injection e1 with p1 _ _
  subst p1
  obtain ⟨b, off, hh, hlt, hcell⟩ := r1 i x hx
  rw [hnb] at hh
  cases hh
  have hc : ∀ j u, x.cells[j]? = some u → w.cell? ⟨nb, i * 7 + j, none⟩ = some u := fun j u hu => by have := hcell j u hu; simpa using this
  exact ⟨hlt, by simpa using hc 0 _ rfl, hc 1 _ rfl, hc 2 _ rfl, hc 3 _ rfl, hc 4 _ rfl, hc 5 _ rfl, hc 6 _ rfl⟩
set_option maxRecDepth 100000 in
set_option maxHeartbeats 6400000 in
theorem resize_no {G : List Nat} {E : Nat → Addr} (W0 : World) (hE : EAt G E W0) (i0 : 4 ∈ G) (T : TM) (w : World) (tb B : Nat) (h : OutAt B w tb T) (g0 : Gr W0 w) (o : OrdV) (oa : Option Addr) (oc : Nat) (hleg : o.srv.leg = false) :
    Calls Tryz.prog 98 #[.pointer (some ⟨tb, 0, none⟩), .agg #[.int .i64 o.kd, .int .i64 o.id, .int .i64 o.srv.k, .int .i64 o.srv.q, .int .i64 o.srv.t, .int .i64 o.pol, .slice oa o.tasks.length oc, .int .i64 o.at_]] w (OrdP B W0 tb (T.v.resize o)) := by
  have hV : T.v.resize o = (T.v, 7, 0) := by unfold TreeV.resize; rw [if_pos hleg]
  rw [hV]
  obtain ⟨W, hW⟩ : ∃ W, W = (w.alloc (.cells #[.int .i64 o.kd, .int .i64 o.id, .int .i64 o.srv.k, .int .i64 o.srv.q, .int .i64 o.srv.t, .int .i64 o.pol, .slice oa o.tasks.length oc, .int .i64 o.at_] 27)).alloc (.cells #[.int .i64 0, .int .i64 0] 43) := ⟨_, rfl⟩
  have gA : Gr w W := by rw [hW]; exact ((Gr.refl w).alloc _).alloc _
  have hOW : Blk W w.heap.size #[.int .i64 o.kd, .int .i64 o.id, .int .i64 o.srv.k, .int .i64 o.srv.q, .int .i64 o.srv.t, .int .i64 o.pol, .slice oa o.tasks.length oc, .int .i64 o.at_] 27 := by rw [hW]; exact (Blk.new w _ _).alloc _
  have hRW : Blk W (w.heap.size + 1) #[.int .i64 0, .int .i64 0] 43 := by
    rw [hW]
    have := Blk.new (w.alloc (.cells #[.int .i64 o.kd, .int .i64 o.id, .int .i64 o.srv.k, .int .i64 o.srv.q, .int .i64 o.srv.t, .int .i64 o.pol, .slice oa o.tasks.length oc, .int .i64 o.at_] 27)) #[.int .i64 0, .int .i64 0] 43
    rw [World.size_alloc] at this
    exact this
  have hTW := h.gr gA
  have gW := g0.trans gA
  have hlt : ∀ y, treeB tb T y → y < w.heap.size := fun y hy => treeB_lt h hy
  have hck := checkServer_no o.srv.k o.srv.q o.srv.t W (hE.gr gW) i0 hleg
  have o2 := hOW.cell (i := 2) (v := .int .i64 o.srv.k) rfl
  have o3 := hOW.cell (i := 3) (v := .int .i64 o.srv.q) rfl
  have o4 := hOW.cell (i := 4) (v := .int .i64 o.srv.t) rfl
  replace hW := Lib.hid hW
  replace hOW := Lib.hid hOW
  replace hRW := Lib.hid hRW
  replace hTW := Lib.hid hTW
  replace hck := Lib.hid hck
  replace hlt := Lib.hid hlt
  replace h := Lib.hid h
  replace hV := Lib.hid hV
  go_enter Tryz.func98, Tryz.ntmps98
  go_upto_region 1 with fail
  rw [← hW.out]
  go_wp2_with fail
  refine hck.out.mono ?_
  rintro e w1 ⟨rfl, g1⟩
  clear o2 o3 o4
  go_wp2_with fail
  refine (refused_any 7 _).mono ?_
  rintro e w2 ⟨rfl, g2⟩
  have hR2 := (hRW.out.gr g1).gr g2
  have hT2 := (hTW.out.gr g1).gr g2
  have gW2 := (gW.trans g1).trans g2
  have r0 := hR2.cell (i := 0) (v := .int .i64 0) rfl
  have r1 := hR2.cell (i := 1) (v := .int .i64 0) rfl
  have rf := fun i => hR2.free i
  replace hR2 := Lib.hid hR2
  replace hT2 := Lib.hid hT2
  go_wp2_with fail
  have hR9 : Blk ((w2.setCell ⟨w.heap.size + 1, 0, none⟩ (.int .i64 7)).setCell ⟨w.heap.size + 1, 1, none⟩ (.int .i64 0)) (w.heap.size + 1) #[.int .i64 7, .int .i64 0] 43 := (hR2.out.set 0 (.int .i64 7)).set 1 (.int .i64 0)
  have gx : GrX [w.heap.size + 1] w2 ((w2.setCell ⟨w.heap.size + 1, 0, none⟩ (.int .i64 7)).setCell ⟨w.heap.size + 1, 1, none⟩ (.int .i64 0)) := ((GrX.refl _ _).set (.inl (by simp)) _).set (.inl (by simp)) _
  have q0 := hR9.cell (i := 0) (v := .int .i64 7) rfl
  have q1 := hR9.cell (i := 1) (v := .int .i64 0) rfl
  refine bodyPost_ret (v := .agg #[.int .i64 7, .int .i64 0]) (by simp [results, Tryz.results98, go_sem, q0, q1]) rfl ?_
  have hwB : W0.heap.size ≤ w.heap.size := g0.size
  exact ⟨rfl, T, hT2.out.away gx (fun y hy ht => by have := hlt.out y ht; simp at hy; omega), rfl, gx.all gW2 (fun y hy => by simp at hy; omega)⟩
set_option maxRecDepth 100000 in
set_option maxHeartbeats 12800000 in
theorem resize_leg {G : List Nat} {E : Nat → Addr} (W0 : World) (hE : EAt G E W0) (i0 : 4 ∈ G) (i1 : 5 ∈ G) (i3 : 7 ∈ G) (T : TM) (w : World) (tb B : Nat) (h : OutAt B w tb T) (hB0 : W0.heap.size ≤ B) (g0 : Gr W0 w) (hs : Srt T.N) (hn1 : 0 ≤ T.now) (hn2 : T.now ≤ 1099511627776) (hgl : T.G.length < 1000000) (o : OrdV) (oa : Option Addr) (oc : Nat) (hleg : o.srv.leg = true) :
    Calls Tryz.prog 98 #[.pointer (some ⟨tb, 0, none⟩), .agg #[.int .i64 o.kd, .int .i64 o.id, .int .i64 o.srv.k, .int .i64 o.srv.q, .int .i64 o.srv.t, .int .i64 o.pol, .slice oa o.tasks.length oc, .int .i64 o.at_]] w (OrdP B W0 tb (T.v.resize o)) := by
  obtain ⟨V, hV⟩ : ∃ V, V = T.v.resize o := ⟨_, rfl⟩
  rw [← hV]
  obtain ⟨W, hW⟩ : ∃ W, W = (w.alloc (.cells #[.int .i64 o.kd, .int .i64 o.id, .int .i64 o.srv.k, .int .i64 o.srv.q, .int .i64 o.srv.t, .int .i64 o.pol, .slice oa o.tasks.length oc, .int .i64 o.at_] 27)).alloc (.cells #[.int .i64 0, .int .i64 0] 43) := ⟨_, rfl⟩
  have gA : Gr w W := by rw [hW]; exact ((Gr.refl w).alloc _).alloc _
  have hOW : Blk W w.heap.size #[.int .i64 o.kd, .int .i64 o.id, .int .i64 o.srv.k, .int .i64 o.srv.q, .int .i64 o.srv.t, .int .i64 o.pol, .slice oa o.tasks.length oc, .int .i64 o.at_] 27 := by rw [hW]; exact (Blk.new w _ _).alloc _
  have hRW : Blk W (w.heap.size + 1) #[.int .i64 0, .int .i64 0] 43 := by
    rw [hW]
    have := Blk.new (w.alloc (.cells #[.int .i64 o.kd, .int .i64 o.id, .int .i64 o.srv.k, .int .i64 o.srv.q, .int .i64 o.srv.t, .int .i64 o.pol, .slice oa o.tasks.length oc, .int .i64 o.at_] 27)) #[.int .i64 0, .int .i64 0] 43
    rw [World.size_alloc] at this
    exact this
  have hTW := h.gr gA
  have gWW := g0.trans gA
  have hg0z := g0.size
  have hWz : W.heap.size = w.heap.size + 2 := by rw [hW]; simp
  have hlt : ∀ y, treeB tb T y → y < w.heap.size := fun y hy => treeB_lt h hy
  replace hW := Lib.hid hW
  replace hOW := Lib.hid hOW
  replace hRW := Lib.hid hRW
  replace hTW := Lib.hid hTW
  replace hlt := Lib.hid hlt
  replace h := Lib.hid h
  replace hV := Lib.hid hV
  replace hWz := Lib.hid hWz
  replace hs := Lib.hid hs
  have hck := checkServer_yes o.srv.k o.srv.q o.srv.t W hleg
  replace hck := Lib.hid hck
  replace hleg := Lib.hid hleg
  have c0 := hTW.out.o.cell (i := 0) (v := .slice T.an T.N.length T.cn) rfl
  have c1 := hTW.out.o.cell (i := 1) (v := .slice T.ag T.G.length T.cg) rfl
  have c2 := hTW.out.o.cell (i := 2) (v := .int .i64 T.last) rfl
  have c3 := hTW.out.o.cell (i := 3) (v := .int .i64 T.now) rfl
  have o0 := hOW.out.cell (i := 0) (v := .int .i64 o.kd) rfl
  have o1 := hOW.out.cell (i := 1) (v := .int .i64 o.id) rfl
  have o2 := hOW.out.cell (i := 2) (v := .int .i64 o.srv.k) rfl
  have o3 := hOW.out.cell (i := 3) (v := .int .i64 o.srv.q) rfl
  have o4 := hOW.out.cell (i := 4) (v := .int .i64 o.srv.t) rfl
  have o5 := hOW.out.cell (i := 5) (v := .int .i64 o.pol) rfl
  have o6 := hOW.out.cell (i := 6) (v := .slice oa o.tasks.length oc) rfl
  have o7 := hOW.out.cell (i := 7) (v := .int .i64 o.at_) rfl
  go_enter Tryz.func98, Tryz.ntmps98
  go_upto_region 1 with fail
  rw [← hW.out]
  go_wp2_with fail
  refine hck.out.mono ?_
  rintro e w1 ⟨rfl, g1⟩
  clear c0 c1 c2 c3 o0 o1 o2 o3 o4 o5 o6 o7
  have hT1 := hTW.out.gr g1
  have zt1 := hT1.o.lt
  have hO1 := hOW.out.gr g1
  have zo1 := hO1.lt
  have hR1 := hRW.out.gr g1
  have gW1 := gWW.trans g1
  replace hT1 := Lib.hid hT1
  replace hO1 := Lib.hid hO1
  replace hR1 := Lib.hid hR1
  have c0 := hT1.out.o.cell (i := 0) (v := .slice T.an T.N.length T.cn) rfl
  have c1 := hT1.out.o.cell (i := 1) (v := .slice T.ag T.G.length T.cg) rfl
  have c2 := hT1.out.o.cell (i := 2) (v := .int .i64 T.last) rfl
  have c3 := hT1.out.o.cell (i := 3) (v := .int .i64 T.now) rfl
  have o0 := hO1.out.cell (i := 0) (v := .int .i64 o.kd) rfl
  have o1 := hO1.out.cell (i := 1) (v := .int .i64 o.id) rfl
  have o2 := hO1.out.cell (i := 2) (v := .int .i64 o.srv.k) rfl
  have o3 := hO1.out.cell (i := 3) (v := .int .i64 o.srv.q) rfl
  have o4 := hO1.out.cell (i := 4) (v := .int .i64 o.srv.t) rfl
  have o5 := hO1.out.cell (i := 5) (v := .int .i64 o.pol) rfl
  have o6 := hO1.out.cell (i := 6) (v := .slice oa o.tasks.length oc) rfl
  have o7 := hO1.out.cell (i := 7) (v := .int .i64 o.at_) rfl
  obtain ⟨Z, hZ⟩ : ∃ Z, Z = T.v.loose o.id := ⟨_, rfl⟩
  have hls := loose_any T o.id w1 tb B hT1.out hs.out
  replace hZ := Lib.hid hZ
  replace hls := Lib.hid hls
  go_wp2_with fail
  refine hls.out.mono ?_
  rintro e w2 ⟨g2, hq⟩
  rw [← hZ.out] at hq
  clear c0 c1 c2 c3 o0 o1 o2 o3 o4 o5 o6 o7
  have hT2 := hT1.out.gr g2
  have zt2 := hT2.o.lt
  have hO2 := hO1.out.gr g2
  have zo2 := hO2.lt
  have hR2 := hR1.out.gr g2
  have gW2 := gW1.trans g2
  replace hT2 := Lib.hid hT2
  replace hO2 := Lib.hid hO2
  replace hR2 := Lib.hid hR2
  rcases hq with ⟨hz, rfl⟩ | ⟨hz, nb, i, x, hnb, hx, hid, rfl⟩
  · have tz : (Z != 0) = true := by simpa using hz
    replace hz := Lib.hid hz
    go_wp2_with fail
    refine (refused_any Z _).mono ?_
    rintro e wz ⟨rfl, gz⟩
    have hRz := hR2.out.gr gz
    have hTz := hT2.out.gr gz
    have gWz := gW2.trans gz
    have r0 := hRz.cell (i := 0) (v := .int .i64 0) rfl
    have r1 := hRz.cell (i := 1) (v := .int .i64 0) rfl
    have rf := fun i => hRz.free i
    replace hRz := Lib.hid hRz
    replace hTz := Lib.hid hTz
    go_wp2_with fail
    have hR9 : Blk ((wz.setCell ⟨w.heap.size + 1, 0, none⟩ (.int .i64 Z)).setCell ⟨w.heap.size + 1, 1, none⟩ (.int .i64 0)) (w.heap.size + 1) #[.int .i64 Z, .int .i64 0] 43 := (hRz.out.set 0 (.int .i64 Z)).set 1 (.int .i64 0)
    have gx : GrX [w.heap.size + 1] wz ((wz.setCell ⟨w.heap.size + 1, 0, none⟩ (.int .i64 Z)).setCell ⟨w.heap.size + 1, 1, none⟩ (.int .i64 0)) := ((GrX.refl _ _).set (.inl (by simp)) _).set (.inl (by simp)) _
    have q0 := hR9.cell (i := 0) (v := .int .i64 Z) rfl
    have q1 := hR9.cell (i := 1) (v := .int .i64 0) rfl
    refine bodyPost_ret (v := .agg #[.int .i64 Z, .int .i64 0]) (by simp [results, Tryz.results98, go_sem, q0, q1]) rfl ?_
    have hVe : V = (T.v, Z, 0) := by rw [hV.out]; unfold TreeV.resize; rw [if_neg (by rw [hleg.out]; decide), if_pos (by rw [← hZ.out]; exact hz.out), hZ.out]
    rw [hVe]
    exact ⟨rfl, T, hTz.out.away gx (fun y hy ht => by have := hlt.out y ht; simp at hy; omega), rfl, gx.all gWz (fun y hy => by simp at hy; have := hg0z; omega)⟩
  · have hfx := find_yes hs.out hx hid
    replace hnb := Lib.hid hnb
    replace hx := Lib.hid hx
    replace hid := Lib.hid hid
    replace hz := Lib.hid hz
    replace hfx := Lib.hid hfx
    obtain ⟨kz, k0, k1, k2, k3, k4, k5, k6⟩ := nd_at hT2.out.t hnb.out hx.out
    by_cases hpol : x.e.pol = 0
    · have tp : (x.e.pol != 0) = false := by simpa using hpol
      replace hpol := Lib.hid hpol
      have c0 := hT2.out.o.cell (i := 0) (v := .slice T.an T.N.length T.cn) rfl
      have c1 := hT2.out.o.cell (i := 1) (v := .slice T.ag T.G.length T.cg) rfl
      have c2 := hT2.out.o.cell (i := 2) (v := .int .i64 T.last) rfl
      have c3 := hT2.out.o.cell (i := 3) (v := .int .i64 T.now) rfl
      have o0 := hO2.out.cell (i := 0) (v := .int .i64 o.kd) rfl
      have o1 := hO2.out.cell (i := 1) (v := .int .i64 o.id) rfl
      have o2 := hO2.out.cell (i := 2) (v := .int .i64 o.srv.k) rfl
      have o3 := hO2.out.cell (i := 3) (v := .int .i64 o.srv.q) rfl
      have o4 := hO2.out.cell (i := 4) (v := .int .i64 o.srv.t) rfl
      have o5 := hO2.out.cell (i := 5) (v := .int .i64 o.pol) rfl
      have o6 := hO2.out.cell (i := 6) (v := .slice oa o.tasks.length oc) rfl
      have o7 := hO2.out.cell (i := 7) (v := .int .i64 o.at_) rfl
      obtain ⟨s, hsd⟩ : ∃ s, s = (T.v.server x.e.par).getD rootS := ⟨_, rfl⟩
      obtain ⟨sb, hsb⟩ : ∃ sb, sb = (T.v.server x.e.par).isSome := ⟨_, rfl⟩
      have hsr : ∀ w', Gr w2 w' → Calls Tryz.prog 112 #[.agg T.row, .int .i64 x.e.par] w' fun e w3 => e = .returned (.tuple #[.agg #[.int .i64 s.k, .int .i64 s.q, .int .i64 s.t], .bool sb]) ∧ Gr w' w3 := fun w' gg => (server_any T x.e.par w' (hT2.out.gr gg).any hs.out).mono (fun e w3 ⟨s2, h2, h3, h4⟩ => by rw [← hsd] at h2; subst h2; rw [← hsb] at h3; exact ⟨h3, h4⟩)
      replace hsd := Lib.hid hsd
      replace hsb := Lib.hid hsb
      replace hsr := Lib.hid hsr
      go_upto_region 8 with fail
      go_cut [7, 8] (fun s5 s6 wx => ∃ pb : Nat, s5 = .pointer (some ⟨pb, 0, none⟩) ∧ s6 = .bool sb ∧ Hid (Blk wx pb #[.int .i64 s.k, .int .i64 s.q, .int .i64 s.t] 24 ∧ Gr w2 wx))
      case first =>
        go_region_held3 (fun w' => w'.cell? ⟨tb, 0, none⟩ = some (.slice T.an T.N.length T.cn) ∧ w'.cell? ⟨tb, 1, none⟩ = some (.slice T.ag T.G.length T.cg) ∧ w'.cell? ⟨tb, 2, none⟩ = some (.int .i64 T.last) ∧ w'.cell? ⟨tb, 3, none⟩ = some (.int .i64 T.now) ∧ w'.cell? ⟨w.heap.size, 0, none⟩ = some (.int .i64 o.kd) ∧ w'.cell? ⟨w.heap.size, 1, none⟩ = some (.int .i64 o.id) ∧ w'.cell? ⟨w.heap.size, 2, none⟩ = some (.int .i64 o.srv.k) ∧ w'.cell? ⟨w.heap.size, 3, none⟩ = some (.int .i64 o.srv.q) ∧ w'.cell? ⟨w.heap.size, 4, none⟩ = some (.int .i64 o.srv.t) ∧ w'.cell? ⟨w.heap.size, 5, none⟩ = some (.int .i64 o.pol) ∧ w'.cell? ⟨w.heap.size, 6, none⟩ = some (.slice oa o.tasks.length oc) ∧ w'.cell? ⟨w.heap.size, 7, none⟩ = some (.int .i64 o.at_) ∧ w'.cell? ⟨nb, i * 7, none⟩ = some (.int .i64 x.e.id) ∧ w'.cell? ⟨nb, i * 7 + 1, none⟩ = some (.int .i64 x.e.par) ∧ w'.cell? ⟨nb, i * 7 + 2, none⟩ = some (.int .i64 x.e.srv.k) ∧ w'.cell? ⟨nb, i * 7 + 3, none⟩ = some (.int .i64 x.e.srv.q) ∧ w'.cell? ⟨nb, i * 7 + 4, none⟩ = some (.int .i64 x.e.srv.t) ∧ w'.cell? ⟨nb, i * 7 + 5, none⟩ = some (.int .i64 x.e.pol) ∧ w'.cell? ⟨nb, i * 7 + 6, none⟩ = some (.slice x.a x.e.tasks.length x.c)) (simp (maxDischargeDepth := 8) [go_sem, *])
          (first
            | (go_at_call 112; (with_reducible refine (hsr.out w2.drew ((Gr.refl _).drew)).mono ?_); rintro e w3 ⟨rfl, gc⟩; have gq : Gr w2 w3 := ((Gr.refl w2).drew).trans gc; have hT3 := hT2.out.gr gq; have zt3 := hT3.o.lt; have hO3 := hO2.out.gr gq; have zo3 := hO3.lt; have hR3 := hR2.out.gr gq; have gW3 := gW2.trans gq; replace hT3 := Lib.hid hT3; replace hO3 := Lib.hid hO3; replace hR3 := Lib.hid hR3; have m0 := hT3.out.o.cell (i := 0) (v := .slice T.an T.N.length T.cn) rfl; have m1 := hT3.out.o.cell (i := 1) (v := .slice T.ag T.G.length T.cg) rfl; have m2 := hT3.out.o.cell (i := 2) (v := .int .i64 T.last) rfl; have m3 := hT3.out.o.cell (i := 3) (v := .int .i64 T.now) rfl; have n0 := hO3.out.cell (i := 0) (v := .int .i64 o.kd) rfl; have n1 := hO3.out.cell (i := 1) (v := .int .i64 o.id) rfl; have n2 := hO3.out.cell (i := 2) (v := .int .i64 o.srv.k) rfl; have n3 := hO3.out.cell (i := 3) (v := .int .i64 o.srv.q) rfl; have n4 := hO3.out.cell (i := 4) (v := .int .i64 o.srv.t) rfl; have n5 := hO3.out.cell (i := 5) (v := .int .i64 o.pol) rfl; have n6 := hO3.out.cell (i := 6) (v := .slice oa o.tasks.length oc) rfl; have n7 := hO3.out.cell (i := 7) (v := .int .i64 o.at_) rfl; obtain ⟨knz, kn0, kn1, kn2, kn3, kn4, kn5, kn6⟩ := nd_at hT3.out.t hnb.out hx.out)
            | (go_at_call 112; (with_reducible refine (hsr.out (w2.alloc (.cells #[.int .i64 0, .int .i64 0, .int .i64 0] 24)).drew (((Gr.refl _).alloc _).drew)).mono ?_); rintro e w3 ⟨rfl, gc⟩; have gq : Gr w2 w3 := (((Gr.refl w2).alloc _).drew).trans gc; have hP := ((Blk.new w2 #[.int .i64 0, .int .i64 0, .int .i64 0] 24).drew).gr gc; have p0 := hP.cell (i := 0) (v := .int .i64 0) rfl; have p1 := hP.cell (i := 1) (v := .int .i64 0) rfl; have p2 := hP.cell (i := 2) (v := .int .i64 0) rfl; have pf := fun i => hP.free i; replace hP := Lib.hid hP; have hT3 := hT2.out.gr gq; have zt3 := hT3.o.lt; have hO3 := hO2.out.gr gq; have zo3 := hO3.lt; have hR3 := hR2.out.gr gq; have gW3 := gW2.trans gq; replace hT3 := Lib.hid hT3; replace hO3 := Lib.hid hO3; replace hR3 := Lib.hid hR3; have m0 := hT3.out.o.cell (i := 0) (v := .slice T.an T.N.length T.cn) rfl; have m1 := hT3.out.o.cell (i := 1) (v := .slice T.ag T.G.length T.cg) rfl; have m2 := hT3.out.o.cell (i := 2) (v := .int .i64 T.last) rfl; have m3 := hT3.out.o.cell (i := 3) (v := .int .i64 T.now) rfl; have n0 := hO3.out.cell (i := 0) (v := .int .i64 o.kd) rfl; have n1 := hO3.out.cell (i := 1) (v := .int .i64 o.id) rfl; have n2 := hO3.out.cell (i := 2) (v := .int .i64 o.srv.k) rfl; have n3 := hO3.out.cell (i := 3) (v := .int .i64 o.srv.q) rfl; have n4 := hO3.out.cell (i := 4) (v := .int .i64 o.srv.t) rfl; have n5 := hO3.out.cell (i := 5) (v := .int .i64 o.pol) rfl; have n6 := hO3.out.cell (i := 6) (v := .slice oa o.tasks.length oc) rfl; have n7 := hO3.out.cell (i := 7) (v := .int .i64 o.at_) rfl; obtain ⟨knz, kn0, kn1, kn2, kn3, kn4, kn5, kn6⟩ := nd_at hT3.out.t hnb.out hx.out)
            | fail)
        all_goals go_wp2_with fail
        all_goals go_meet
        · exact ⟨_, rfl, rfl, Lib.hid ⟨Blk.new w3 _ _, gq.alloc _⟩⟩
        · exact ⟨_, rfl, rfl, Lib.hid ⟨((hP.out.set 0 _).set 1 _).set 2 _, ((gq.setCell (Nat.le_refl _) _).setCell (Nat.le_refl _) _).setCell (Nat.le_refl _) _⟩⟩
      case rest =>
        obtain ⟨pb, rfl, rfl, hc⟩ := hcut
        obtain ⟨hPb, gc4⟩ := hc.out
        obtain ⟨w4, rfl⟩ : ∃ w4 : World, w4 = wc := ⟨_, rfl⟩
        clear c0 c1 c2 c3 o0 o1 o2 o3 o4 o5 o6 o7
        clear kz k0 k1 k2 k3 k4 k5 k6
        clear hc tp
        have hT4 := hT2.out.gr gc4
        have zt4 := hT4.o.lt
        have hO4 := hO2.out.gr gc4
        have zo4 := hO4.lt
        have hR4 := hR2.out.gr gc4
        have gW4 := gW2.trans gc4
        replace hT4 := Lib.hid hT4
        replace hO4 := Lib.hid hO4
        replace hR4 := Lib.hid hR4
        replace hPb := Lib.hid hPb
        have c0 := hT4.out.o.cell (i := 0) (v := .slice T.an T.N.length T.cn) rfl
        have c1 := hT4.out.o.cell (i := 1) (v := .slice T.ag T.G.length T.cg) rfl
        have c2 := hT4.out.o.cell (i := 2) (v := .int .i64 T.last) rfl
        have c3 := hT4.out.o.cell (i := 3) (v := .int .i64 T.now) rfl
        have o0 := hO4.out.cell (i := 0) (v := .int .i64 o.kd) rfl
        have o1 := hO4.out.cell (i := 1) (v := .int .i64 o.id) rfl
        have o2 := hO4.out.cell (i := 2) (v := .int .i64 o.srv.k) rfl
        have o3 := hO4.out.cell (i := 3) (v := .int .i64 o.srv.q) rfl
        have o4 := hO4.out.cell (i := 4) (v := .int .i64 o.srv.t) rfl
        have o5 := hO4.out.cell (i := 5) (v := .int .i64 o.pol) rfl
        have o6 := hO4.out.cell (i := 6) (v := .slice oa o.tasks.length oc) rfl
        have o7 := hO4.out.cell (i := 7) (v := .int .i64 o.at_) rfl
        obtain ⟨kz, k0, k1, k2, k3, k4, k5, k6⟩ := nd_at hT4.out.t hnb.out hx.out
        obtain ⟨L, hL⟩ : ∃ L, L = T.v.counted x.e.par := ⟨_, rfl⟩
        have hLl : L.length ≤ 2000000 := by
          have h1 := cntN_len T.N x.e.par T.N.length
          have h2 := cntG_len T.G x.e.par T.G.length
          have h3 := hT4.out.t.l1
          have h4 := hT4.out.t.l2
          rw [hL, cnt_all, List.length_append]
          omega
        have gd4 : Gr w4 w4.drew := (Gr.refl w4).drew
        have hcn := counted_any T x.e.par w4.drew (hT4.out.gr gd4).any
        rw [← hL] at hcn
        replace hcn := Lib.hid hcn
        replace hL := Lib.hid hL
        go_upto_region 9 with fail
        go_region_held3 (fun w' => w'.cell? ⟨tb, 0, none⟩ = some (.slice T.an T.N.length T.cn) ∧ w'.cell? ⟨tb, 1, none⟩ = some (.slice T.ag T.G.length T.cg) ∧ w'.cell? ⟨tb, 2, none⟩ = some (.int .i64 T.last) ∧ w'.cell? ⟨tb, 3, none⟩ = some (.int .i64 T.now) ∧ w'.cell? ⟨w.heap.size, 0, none⟩ = some (.int .i64 o.kd) ∧ w'.cell? ⟨w.heap.size, 1, none⟩ = some (.int .i64 o.id) ∧ w'.cell? ⟨w.heap.size, 2, none⟩ = some (.int .i64 o.srv.k) ∧ w'.cell? ⟨w.heap.size, 3, none⟩ = some (.int .i64 o.srv.q) ∧ w'.cell? ⟨w.heap.size, 4, none⟩ = some (.int .i64 o.srv.t) ∧ w'.cell? ⟨w.heap.size, 5, none⟩ = some (.int .i64 o.pol) ∧ w'.cell? ⟨w.heap.size, 6, none⟩ = some (.slice oa o.tasks.length oc) ∧ w'.cell? ⟨w.heap.size, 7, none⟩ = some (.int .i64 o.at_) ∧ w'.cell? ⟨nb, i * 7, none⟩ = some (.int .i64 x.e.id) ∧ w'.cell? ⟨nb, i * 7 + 1, none⟩ = some (.int .i64 x.e.par) ∧ w'.cell? ⟨nb, i * 7 + 2, none⟩ = some (.int .i64 x.e.srv.k) ∧ w'.cell? ⟨nb, i * 7 + 3, none⟩ = some (.int .i64 x.e.srv.q) ∧ w'.cell? ⟨nb, i * 7 + 4, none⟩ = some (.int .i64 x.e.srv.t) ∧ w'.cell? ⟨nb, i * 7 + 5, none⟩ = some (.int .i64 x.e.pol) ∧ w'.cell? ⟨nb, i * 7 + 6, none⟩ = some (.slice x.a x.e.tasks.length x.c)) (simp (maxDischargeDepth := 8) [go_sem, *])
          (first
            | (go_at_call 115; (with_reducible refine hcn.out.mono ?_); rintro e w8 ⟨la, lc, rfl, hLo, g8⟩; have hT8 := hT4.out.gr (gd4.trans g8); have zt8 := hT8.o.lt; have hO8 := hO4.out.gr (gd4.trans g8); have zo8 := hO8.lt; have hR8 := hR4.out.gr (gd4.trans g8); have gW8 := gW4.trans (gd4.trans g8); replace hT8 := Lib.hid hT8; replace hO8 := Lib.hid hO8; replace hR8 := Lib.hid hR8; have m0 := hT8.out.o.cell (i := 0) (v := .slice T.an T.N.length T.cn) rfl; have m1 := hT8.out.o.cell (i := 1) (v := .slice T.ag T.G.length T.cg) rfl; have m2 := hT8.out.o.cell (i := 2) (v := .int .i64 T.last) rfl; have m3 := hT8.out.o.cell (i := 3) (v := .int .i64 T.now) rfl; have n0 := hO8.out.cell (i := 0) (v := .int .i64 o.kd) rfl; have n1 := hO8.out.cell (i := 1) (v := .int .i64 o.id) rfl; have n2 := hO8.out.cell (i := 2) (v := .int .i64 o.srv.k) rfl; have n3 := hO8.out.cell (i := 3) (v := .int .i64 o.srv.q) rfl; have n4 := hO8.out.cell (i := 4) (v := .int .i64 o.srv.t) rfl; have n5 := hO8.out.cell (i := 5) (v := .int .i64 o.pol) rfl; have n6 := hO8.out.cell (i := 6) (v := .slice oa o.tasks.length oc) rfl; have n7 := hO8.out.cell (i := 7) (v := .int .i64 o.at_) rfl; obtain ⟨knz, kn0, kn1, kn2, kn3, kn4, kn5, kn6⟩ := nd_at hT8.out.t hnb.out hx.out; replace hLo := Lib.hid hLo)
            | fail)
        clear c0 c1 c2 c3 o0 o1 o2 o3 o4 o5 o6 o7
        clear m0 m1 m2 m3 n0 n1 n2 n3 n4 n5 n6 n7
        clear kz k0 k1 k2 k3 k4 k5 k6
        clear knz kn0 kn1 kn2 kn3 kn4 kn5 kn6
        have hPb8 := hPb.out.gr (gd4.trans g8)
        replace hPb8 := Lib.hid hPb8
        have c0 := hT8.out.o.cell (i := 0) (v := .slice T.an T.N.length T.cn) rfl
        have c1 := hT8.out.o.cell (i := 1) (v := .slice T.ag T.G.length T.cg) rfl
        have c2 := hT8.out.o.cell (i := 2) (v := .int .i64 T.last) rfl
        have c3 := hT8.out.o.cell (i := 3) (v := .int .i64 T.now) rfl
        have o0 := hO8.out.cell (i := 0) (v := .int .i64 o.kd) rfl
        have o1 := hO8.out.cell (i := 1) (v := .int .i64 o.id) rfl
        have o2 := hO8.out.cell (i := 2) (v := .int .i64 o.srv.k) rfl
        have o3 := hO8.out.cell (i := 3) (v := .int .i64 o.srv.q) rfl
        have o4 := hO8.out.cell (i := 4) (v := .int .i64 o.srv.t) rfl
        have o5 := hO8.out.cell (i := 5) (v := .int .i64 o.pol) rfl
        have o6 := hO8.out.cell (i := 6) (v := .slice oa o.tasks.length oc) rfl
        have o7 := hO8.out.cell (i := 7) (v := .int .i64 o.at_) rfl
        obtain ⟨kz, k0, k1, k2, k3, k4, k5, k6⟩ := nd_at hT8.out.t hnb.out hx.out
        by_cases hlf : 8 ≤ L.length
        · have t8 : (8 : Int) ≤ L.length := by omega
          replace hlf := Lib.hid hlf
          go_wp2_with fail
          clear c0 c1 c2 c3 o0 o1 o2 o3 o4 o5 o6 o7
          clear kz k0 k1 k2 k3 k4 k5 k6
          refine (refused_any 5 _).mono ?_
          rintro e wz ⟨rfl, gz⟩
          have hRz := hR8.out.gr gz
          have hTz := hT8.out.gr gz
          have gWz := gW8.trans gz
          have r0 := hRz.cell (i := 0) (v := .int .i64 0) rfl
          have r1 := hRz.cell (i := 1) (v := .int .i64 0) rfl
          have rf := fun i => hRz.free i
          replace hRz := Lib.hid hRz
          replace hTz := Lib.hid hTz
          go_wp2_with fail
          have hR9 : Blk ((wz.setCell ⟨w.heap.size + 1, 0, none⟩ (.int .i64 5)).setCell ⟨w.heap.size + 1, 1, none⟩ (.int .i64 0)) (w.heap.size + 1) #[.int .i64 5, .int .i64 0] 43 := (hRz.out.set 0 (.int .i64 5)).set 1 (.int .i64 0)
          have gx : GrX [w.heap.size + 1] wz ((wz.setCell ⟨w.heap.size + 1, 0, none⟩ (.int .i64 5)).setCell ⟨w.heap.size + 1, 1, none⟩ (.int .i64 0)) := ((GrX.refl _ _).set (.inl (by simp)) _).set (.inl (by simp)) _
          have q0 := hR9.cell (i := 0) (v := .int .i64 5) rfl
          have q1 := hR9.cell (i := 1) (v := .int .i64 0) rfl
          refine bodyPost_ret (v := .agg #[.int .i64 5, .int .i64 0]) (by simp [results, Tryz.results98, go_sem, q0, q1]) rfl ?_
          have hVe : V = (T.v, 5, 0) := by rw [hV.out]; unfold TreeV.resize; rw [if_neg (by rw [hleg.out]; decide), if_neg (by rw [← hZ.out, hz.out]; simp), hfx.out]; dsimp only; rw [if_neg (by rw [hpol.out]; simp), if_pos (by rw [← hL.out]; exact hlf.out)]
          rw [hVe]
          exact ⟨rfl, T, hTz.out.away gx (fun y hy ht => by have := hlt.out y ht; simp at hy; omega), rfl, gx.all gWz (fun y hy => by simp at hy; have := hg0z; omega)⟩
        · have t8 : ¬ (8 : Int) ≤ L.length := by omega
          have t8b : decide ((8 : Int) ≤ L.length) = false := decide_eq_false t8
          have hl8 : L.length ≤ 7 := by omega
          replace hlf := Lib.hid hlf
          obtain ⟨Lx, hLx⟩ : ∃ Lx, Lx = L ++ [o.srv] := ⟨_, rfl⟩
          have hLx9 : Lx.length ≤ maxLen := by rw [hLx, List.length_append]; simp; unfold maxLen; omega
          obtain ⟨i24, hi, hz0, hz1, hz2⟩ := info_parts Tryz.infoSrv
          have gz8 : Gr w8 (w8.alloc (.cells #[.int .i64 o.srv.k, .int .i64 o.srv.q, .int .i64 o.srv.t] 24)).drew := ((Gr.refl w8).alloc _).drew
          have gzz : Gr w4 (w8.alloc (.cells #[.int .i64 o.srv.k, .int .i64 o.srv.q, .int .i64 o.srv.t] 24)).drew := (gd4.trans g8).trans gz8
          have hOz := owns_gr hLo.out gz8
          have hsz : RecsAt 3 Srv.cells (w8.alloc (.cells #[.int .i64 o.srv.k, .int .i64 o.srv.q, .int .i64 o.srv.t] 24)).drew (some ⟨w8.heap.size, 0, none⟩) [o.srv] := (RecsIn.grx (K := Any) ⟨recs_alloc Srv.cells_len w8 [o.srv] 24 #[.int .i64 o.srv.k, .int .i64 o.srv.q, .int .i64 o.srv.t] (by simp), fun _ _ _ => trivial⟩ ((Gr.refl _).drew.x []) (fun _ h => by cases h)).1
          have hbz : w4.heap.size ≤ (w8.alloc (.cells #[.int .i64 o.srv.k, .int .i64 o.srv.q, .int .i64 o.srv.t] 24)).drew.heap.size := gzz.size
          replace hOz := Lib.hid hOz
          replace hsz := Lib.hid hsz
          have zp8 := hPb8.out.lt
          have pc0 := hPb8.out.cell (i := 0) (v := .int .i64 s.k) rfl
          have pc1 := hPb8.out.cell (i := 1) (v := .int .i64 s.q) rfl
          have pc2 := hPb8.out.cell (i := 2) (v := .int .i64 s.t) rfl
          have hkd0 := fun (w' : World) (a' : Option Addr) (c' : Nat) (gg : Gr W0 w') (hh : SrvsAt w' a' Lx) => kids_any s a' Lx c' w' (hE.gr gg) i0 i1 i3 hh hLx9
          replace hLx := Lib.hid hLx
          cases hk : kidsErr s Lx with
          | some ge =>
            have hkd : ∀ (w' : World) (a' : Option Addr) (c' : Nat), Gr W0 w' → SrvsAt w' a' Lx → Calls Tryz.prog 116 #[.agg #[.int .i64 s.k, .int .i64 s.q, .int .i64 s.t], .slice a' Lx.length c'] w' fun e w2 => e = .returned (.iface 258 (.pointer (some (E ge)))) ∧ Gr w' w2 := fun w' a' c' gg hh => by have := hkd0 w' a' c' gg hh; rw [hk] at this; exact this
            clear hkd0
            replace hkd := Lib.hid hkd
            replace hk := Lib.hid hk
            go_upto_region 12 with fail
            go_region_held3 (fun w' => w'.cell? ⟨tb, 0, none⟩ = some (.slice T.an T.N.length T.cn) ∧ w'.cell? ⟨tb, 1, none⟩ = some (.slice T.ag T.G.length T.cg) ∧ w'.cell? ⟨tb, 2, none⟩ = some (.int .i64 T.last) ∧ w'.cell? ⟨tb, 3, none⟩ = some (.int .i64 T.now) ∧ w'.cell? ⟨w.heap.size, 0, none⟩ = some (.int .i64 o.kd) ∧ w'.cell? ⟨w.heap.size, 1, none⟩ = some (.int .i64 o.id) ∧ w'.cell? ⟨w.heap.size, 2, none⟩ = some (.int .i64 o.srv.k) ∧ w'.cell? ⟨w.heap.size, 3, none⟩ = some (.int .i64 o.srv.q) ∧ w'.cell? ⟨w.heap.size, 4, none⟩ = some (.int .i64 o.srv.t) ∧ w'.cell? ⟨w.heap.size, 5, none⟩ = some (.int .i64 o.pol) ∧ w'.cell? ⟨w.heap.size, 6, none⟩ = some (.slice oa o.tasks.length oc) ∧ w'.cell? ⟨w.heap.size, 7, none⟩ = some (.int .i64 o.at_) ∧ w'.cell? ⟨pb, 0, none⟩ = some (.int .i64 s.k) ∧ w'.cell? ⟨pb, 1, none⟩ = some (.int .i64 s.q) ∧ w'.cell? ⟨pb, 2, none⟩ = some (.int .i64 s.t) ∧ w'.cell? ⟨nb, i * 7, none⟩ = some (.int .i64 x.e.id) ∧ w'.cell? ⟨nb, i * 7 + 1, none⟩ = some (.int .i64 x.e.par) ∧ w'.cell? ⟨nb, i * 7 + 2, none⟩ = some (.int .i64 x.e.srv.k) ∧ w'.cell? ⟨nb, i * 7 + 3, none⟩ = some (.int .i64 x.e.srv.q) ∧ w'.cell? ⟨nb, i * 7 + 4, none⟩ = some (.int .i64 x.e.srv.t) ∧ w'.cell? ⟨nb, i * 7 + 5, none⟩ = some (.int .i64 x.e.pol) ∧ w'.cell? ⟨nb, i * 7 + 6, none⟩ = some (.slice x.a x.e.tasks.length x.c)) (simp (maxDischargeDepth := 8) [go_sem, *])
              (first
                | (refine step_append_recs (k := 3) (enc := Srv.cells) (by rfl) _ _ 95 (by rfl) w4.heap.size 24 i24 _ 24 Tryz.underlying95 hi hz0 hz1 hz2 rfl (by decide) Srv.cells_len Srv.cells_one (.slice la L.length lc) L (by rfl) hOz.out ⟨w8.heap.size, 0, none⟩ 1 1 [o.srv] rfl (by rfl) hsz.out (by unfold maxLen; omega) (by omega) hbz ?_; intro v9 w9 hown9 hgr9; rw [← hLx.out] at hown9; obtain ⟨a9, c9, e9, -, -, -⟩ := recs_of_owns Srv.cells_len hown9; subst e9; have gq : Gr w4 w9 := gzz.grown hgr9 (fun y hy => (owns_lt hOz.out y hy).2); have hT9 := hT4.out.gr gq; have zt9 := hT9.o.lt; have hO9 := hO4.out.gr gq; have zo9 := hO9.lt; have hR9 := hR4.out.gr gq; have gW9 := gW4.trans gq; replace hT9 := Lib.hid hT9; replace hO9 := Lib.hid hO9; replace hR9 := Lib.hid hR9; have m0 := hT9.out.o.cell (i := 0) (v := .slice T.an T.N.length T.cn) rfl; have m1 := hT9.out.o.cell (i := 1) (v := .slice T.ag T.G.length T.cg) rfl; have m2 := hT9.out.o.cell (i := 2) (v := .int .i64 T.last) rfl; have m3 := hT9.out.o.cell (i := 3) (v := .int .i64 T.now) rfl; have n0 := hO9.out.cell (i := 0) (v := .int .i64 o.kd) rfl; have n1 := hO9.out.cell (i := 1) (v := .int .i64 o.id) rfl; have n2 := hO9.out.cell (i := 2) (v := .int .i64 o.srv.k) rfl; have n3 := hO9.out.cell (i := 3) (v := .int .i64 o.srv.q) rfl; have n4 := hO9.out.cell (i := 4) (v := .int .i64 o.srv.t) rfl; have n5 := hO9.out.cell (i := 5) (v := .int .i64 o.pol) rfl; have n6 := hO9.out.cell (i := 6) (v := .slice oa o.tasks.length oc) rfl; have n7 := hO9.out.cell (i := 7) (v := .int .i64 o.at_) rfl; obtain ⟨knz, kn0, kn1, kn2, kn3, kn4, kn5, kn6⟩ := nd_at hT9.out.t hnb.out hx.out; have hPb9 := hPb.out.gr gq; have pm0 := hPb9.cell (i := 0) (v := .int .i64 s.k) rfl; have pm1 := hPb9.cell (i := 1) (v := .int .i64 s.q) rfl; have pm2 := hPb9.cell (i := 2) (v := .int .i64 s.t) rfl; have zp9 := hPb9.lt; replace hPb9 := Lib.hid hPb9; replace hown9 := Lib.hid hown9; clear hgr9)
                | (go_at_call 116; (with_reducible refine (hkd.out w9 a9 c9 gW9 (owns_srvs hown9.out)).mono ?_); rintro e w10 ⟨rfl, g10⟩; have hT10 := hT9.out.gr g10; have zt10 := hT10.o.lt; have hO10 := hO9.out.gr g10; have zo10 := hO10.lt; have hR10 := hR9.out.gr g10; have gW10 := gW9.trans g10; replace hT10 := Lib.hid hT10; replace hO10 := Lib.hid hO10; replace hR10 := Lib.hid hR10; have x0 := hT10.out.o.cell (i := 0) (v := .slice T.an T.N.length T.cn) rfl; have x1 := hT10.out.o.cell (i := 1) (v := .slice T.ag T.G.length T.cg) rfl; have x2 := hT10.out.o.cell (i := 2) (v := .int .i64 T.last) rfl; have x3 := hT10.out.o.cell (i := 3) (v := .int .i64 T.now) rfl; have y0 := hO10.out.cell (i := 0) (v := .int .i64 o.kd) rfl; have y1 := hO10.out.cell (i := 1) (v := .int .i64 o.id) rfl; have y2 := hO10.out.cell (i := 2) (v := .int .i64 o.srv.k) rfl; have y3 := hO10.out.cell (i := 3) (v := .int .i64 o.srv.q) rfl; have y4 := hO10.out.cell (i := 4) (v := .int .i64 o.srv.t) rfl; have y5 := hO10.out.cell (i := 5) (v := .int .i64 o.pol) rfl; have y6 := hO10.out.cell (i := 6) (v := .slice oa o.tasks.length oc) rfl; have y7 := hO10.out.cell (i := 7) (v := .int .i64 o.at_) rfl; obtain ⟨koz, ko0, ko1, ko2, ko3, ko4, ko5, ko6⟩ := nd_at hT10.out.t hnb.out hx.out; have hPb10 := hPb9.out.gr g10; have pn0 := hPb10.cell (i := 0) (v := .int .i64 s.k) rfl; have pn1 := hPb10.cell (i := 1) (v := .int .i64 s.q) rfl; have pn2 := hPb10.cell (i := 2) (v := .int .i64 s.t) rfl; replace hPb10 := Lib.hid hPb10)
                | fail)
            clear c0 c1 c2 c3 o0 o1 o2 o3 o4 o5 o6 o7
            clear m0 m1 m2 m3 n0 n1 n2 n3 n4 n5 n6 n7
            clear x0 x1 x2 x3 y0 y1 y2 y3 y4 y5 y6 y7 pc0 pc1 pc2 pm0 pm1 pm2 pn0 pn1 pn2
            clear kz k0 k1 k2 k3 k4 k5 k6
            clear knz kn0 kn1 kn2 kn3 kn4 kn5 kn6
            clear koz ko0 ko1 ko2 ko3 ko4 ko5 ko6
            go_wp2_with fail
            refine (refused_any 4 _).mono ?_
            rintro e wz ⟨rfl, gz⟩
            have hRz := hR10.out.gr gz
            have hTz := hT10.out.gr gz
            have gWz := gW10.trans gz
            have r0 := hRz.cell (i := 0) (v := .int .i64 0) rfl
            have r1 := hRz.cell (i := 1) (v := .int .i64 0) rfl
            have rf := fun i => hRz.free i
            replace hRz := Lib.hid hRz
            replace hTz := Lib.hid hTz
            go_wp2_with fail
            have hR9 : Blk ((wz.setCell ⟨w.heap.size + 1, 0, none⟩ (.int .i64 4)).setCell ⟨w.heap.size + 1, 1, none⟩ (.int .i64 0)) (w.heap.size + 1) #[.int .i64 4, .int .i64 0] 43 := (hRz.out.set 0 (.int .i64 4)).set 1 (.int .i64 0)
            have gx : GrX [w.heap.size + 1] wz ((wz.setCell ⟨w.heap.size + 1, 0, none⟩ (.int .i64 4)).setCell ⟨w.heap.size + 1, 1, none⟩ (.int .i64 0)) := ((GrX.refl _ _).set (.inl (by simp)) _).set (.inl (by simp)) _
            have q0 := hR9.cell (i := 0) (v := .int .i64 4) rfl
            have q1 := hR9.cell (i := 1) (v := .int .i64 0) rfl
            refine bodyPost_ret (v := .agg #[.int .i64 4, .int .i64 0]) (by simp [results, Tryz.results98, go_sem, q0, q1]) rfl ?_
            have hVe : V = (T.v, 4, 0) := by rw [hV.out]; unfold TreeV.resize; rw [if_neg (by rw [hleg.out]; decide), if_neg (by rw [← hZ.out, hz.out]; simp), hfx.out]; dsimp only; rw [if_neg (by rw [hpol.out]; simp), if_neg (by rw [← hL.out]; have := hlf.out; omega), if_pos (by rw [← hsd.out, ← hL.out, ← hLx.out, hk.out]; simp)]
            rw [hVe]
            exact ⟨rfl, T, hTz.out.away gx (fun y hy ht => by have := hlt.out y ht; simp at hy; omega), rfl, gx.all gWz (fun y hy => by simp at hy; have := hg0z; omega)⟩
          | none =>
            have hkd : ∀ (w' : World) (a' : Option Addr) (c' : Nat), Gr W0 w' → SrvsAt w' a' Lx → Calls Tryz.prog 116 #[.agg #[.int .i64 s.k, .int .i64 s.q, .int .i64 s.t], .slice a' Lx.length c'] w' fun e w2 => e = .returned .nilIface ∧ Gr w' w2 := fun w' a' c' gg hh => by have := hkd0 w' a' c' gg hh; rw [hk] at this; exact this
            clear hkd0
            replace hkd := Lib.hid hkd
            replace hk := Lib.hid hk
            go_upto_region 12 with fail
            go_region_held3 (fun w' => w'.cell? ⟨tb, 0, none⟩ = some (.slice T.an T.N.length T.cn) ∧ w'.cell? ⟨tb, 1, none⟩ = some (.slice T.ag T.G.length T.cg) ∧ w'.cell? ⟨tb, 2, none⟩ = some (.int .i64 T.last) ∧ w'.cell? ⟨tb, 3, none⟩ = some (.int .i64 T.now) ∧ w'.cell? ⟨w.heap.size, 0, none⟩ = some (.int .i64 o.kd) ∧ w'.cell? ⟨w.heap.size, 1, none⟩ = some (.int .i64 o.id) ∧ w'.cell? ⟨w.heap.size, 2, none⟩ = some (.int .i64 o.srv.k) ∧ w'.cell? ⟨w.heap.size, 3, none⟩ = some (.int .i64 o.srv.q) ∧ w'.cell? ⟨w.heap.size, 4, none⟩ = some (.int .i64 o.srv.t) ∧ w'.cell? ⟨w.heap.size, 5, none⟩ = some (.int .i64 o.pol) ∧ w'.cell? ⟨w.heap.size, 6, none⟩ = some (.slice oa o.tasks.length oc) ∧ w'.cell? ⟨w.heap.size, 7, none⟩ = some (.int .i64 o.at_) ∧ w'.cell? ⟨pb, 0, none⟩ = some (.int .i64 s.k) ∧ w'.cell? ⟨pb, 1, none⟩ = some (.int .i64 s.q) ∧ w'.cell? ⟨pb, 2, none⟩ = some (.int .i64 s.t) ∧ w'.cell? ⟨nb, i * 7, none⟩ = some (.int .i64 x.e.id) ∧ w'.cell? ⟨nb, i * 7 + 1, none⟩ = some (.int .i64 x.e.par) ∧ w'.cell? ⟨nb, i * 7 + 2, none⟩ = some (.int .i64 x.e.srv.k) ∧ w'.cell? ⟨nb, i * 7 + 3, none⟩ = some (.int .i64 x.e.srv.q) ∧ w'.cell? ⟨nb, i * 7 + 4, none⟩ = some (.int .i64 x.e.srv.t) ∧ w'.cell? ⟨nb, i * 7 + 5, none⟩ = some (.int .i64 x.e.pol) ∧ w'.cell? ⟨nb, i * 7 + 6, none⟩ = some (.slice x.a x.e.tasks.length x.c)) (simp (maxDischargeDepth := 8) [go_sem, *])
              (first
                | (refine step_append_recs (k := 3) (enc := Srv.cells) (by rfl) _ _ 95 (by rfl) w4.heap.size 24 i24 _ 24 Tryz.underlying95 hi hz0 hz1 hz2 rfl (by decide) Srv.cells_len Srv.cells_one (.slice la L.length lc) L (by rfl) hOz.out ⟨w8.heap.size, 0, none⟩ 1 1 [o.srv] rfl (by rfl) hsz.out (by unfold maxLen; omega) (by omega) hbz ?_; intro v9 w9 hown9 hgr9; rw [← hLx.out] at hown9; obtain ⟨a9, c9, e9, -, -, -⟩ := recs_of_owns Srv.cells_len hown9; subst e9; have gq : Gr w4 w9 := gzz.grown hgr9 (fun y hy => (owns_lt hOz.out y hy).2); have hT9 := hT4.out.gr gq; have zt9 := hT9.o.lt; have hO9 := hO4.out.gr gq; have zo9 := hO9.lt; have hR9 := hR4.out.gr gq; have gW9 := gW4.trans gq; replace hT9 := Lib.hid hT9; replace hO9 := Lib.hid hO9; replace hR9 := Lib.hid hR9; have m0 := hT9.out.o.cell (i := 0) (v := .slice T.an T.N.length T.cn) rfl; have m1 := hT9.out.o.cell (i := 1) (v := .slice T.ag T.G.length T.cg) rfl; have m2 := hT9.out.o.cell (i := 2) (v := .int .i64 T.last) rfl; have m3 := hT9.out.o.cell (i := 3) (v := .int .i64 T.now) rfl; have n0 := hO9.out.cell (i := 0) (v := .int .i64 o.kd) rfl; have n1 := hO9.out.cell (i := 1) (v := .int .i64 o.id) rfl; have n2 := hO9.out.cell (i := 2) (v := .int .i64 o.srv.k) rfl; have n3 := hO9.out.cell (i := 3) (v := .int .i64 o.srv.q) rfl; have n4 := hO9.out.cell (i := 4) (v := .int .i64 o.srv.t) rfl; have n5 := hO9.out.cell (i := 5) (v := .int .i64 o.pol) rfl; have n6 := hO9.out.cell (i := 6) (v := .slice oa o.tasks.length oc) rfl; have n7 := hO9.out.cell (i := 7) (v := .int .i64 o.at_) rfl; obtain ⟨knz, kn0, kn1, kn2, kn3, kn4, kn5, kn6⟩ := nd_at hT9.out.t hnb.out hx.out; have hPb9 := hPb.out.gr gq; have pm0 := hPb9.cell (i := 0) (v := .int .i64 s.k) rfl; have pm1 := hPb9.cell (i := 1) (v := .int .i64 s.q) rfl; have pm2 := hPb9.cell (i := 2) (v := .int .i64 s.t) rfl; have zp9 := hPb9.lt; replace hPb9 := Lib.hid hPb9; replace hown9 := Lib.hid hown9; clear hgr9)
                | (go_at_call 116; (with_reducible refine (hkd.out w9 a9 c9 gW9 (owns_srvs hown9.out)).mono ?_); rintro e w10 ⟨rfl, g10⟩; have hT10 := hT9.out.gr g10; have zt10 := hT10.o.lt; have hO10 := hO9.out.gr g10; have zo10 := hO10.lt; have hR10 := hR9.out.gr g10; have gW10 := gW9.trans g10; replace hT10 := Lib.hid hT10; replace hO10 := Lib.hid hO10; replace hR10 := Lib.hid hR10; have x0 := hT10.out.o.cell (i := 0) (v := .slice T.an T.N.length T.cn) rfl; have x1 := hT10.out.o.cell (i := 1) (v := .slice T.ag T.G.length T.cg) rfl; have x2 := hT10.out.o.cell (i := 2) (v := .int .i64 T.last) rfl; have x3 := hT10.out.o.cell (i := 3) (v := .int .i64 T.now) rfl; have y0 := hO10.out.cell (i := 0) (v := .int .i64 o.kd) rfl; have y1 := hO10.out.cell (i := 1) (v := .int .i64 o.id) rfl; have y2 := hO10.out.cell (i := 2) (v := .int .i64 o.srv.k) rfl; have y3 := hO10.out.cell (i := 3) (v := .int .i64 o.srv.q) rfl; have y4 := hO10.out.cell (i := 4) (v := .int .i64 o.srv.t) rfl; have y5 := hO10.out.cell (i := 5) (v := .int .i64 o.pol) rfl; have y6 := hO10.out.cell (i := 6) (v := .slice oa o.tasks.length oc) rfl; have y7 := hO10.out.cell (i := 7) (v := .int .i64 o.at_) rfl; obtain ⟨koz, ko0, ko1, ko2, ko3, ko4, ko5, ko6⟩ := nd_at hT10.out.t hnb.out hx.out; have hPb10 := hPb9.out.gr g10; have pn0 := hPb10.cell (i := 0) (v := .int .i64 s.k) rfl; have pn1 := hPb10.cell (i := 1) (v := .int .i64 s.q) rfl; have pn2 := hPb10.cell (i := 2) (v := .int .i64 s.t) rfl; replace hPb10 := Lib.hid hPb10)
                | fail)
            clear c0 c1 c2 c3 o0 o1 o2 o3 o4 o5 o6 o7
            clear m0 m1 m2 m3 n0 n1 n2 n3 n4 n5 n6 n7
            clear x0 x1 x2 x3 y0 y1 y2 y3 y4 y5 y6 y7 pc0 pc1 pc2 pm0 pm1 pm2 pn0 pn1 pn2
            clear kz k0 k1 k2 k3 k4 k5 k6
            clear knz kn0 kn1 kn2 kn3 kn4 kn5 kn6
            clear koz ko0 ko1 ko2 ko3 ko4 ko5 ko6
            have c0 := hT10.out.o.cell (i := 0) (v := .slice T.an T.N.length T.cn) rfl
            have c1 := hT10.out.o.cell (i := 1) (v := .slice T.ag T.G.length T.cg) rfl
            have c2 := hT10.out.o.cell (i := 2) (v := .int .i64 T.last) rfl
            have c3 := hT10.out.o.cell (i := 3) (v := .int .i64 T.now) rfl
            have o0 := hO10.out.cell (i := 0) (v := .int .i64 o.kd) rfl
            have o1 := hO10.out.cell (i := 1) (v := .int .i64 o.id) rfl
            have o2 := hO10.out.cell (i := 2) (v := .int .i64 o.srv.k) rfl
            have o3 := hO10.out.cell (i := 3) (v := .int .i64 o.srv.q) rfl
            have o4 := hO10.out.cell (i := 4) (v := .int .i64 o.srv.t) rfl
            have o5 := hO10.out.cell (i := 5) (v := .int .i64 o.pol) rfl
            have o6 := hO10.out.cell (i := 6) (v := .slice oa o.tasks.length oc) rfl
            have o7 := hO10.out.cell (i := 7) (v := .int .i64 o.at_) rfl
            obtain ⟨kz, k0, k1, k2, k3, k4, k5, k6⟩ := nd_at hT10.out.t hnb.out hx.out
            have fz := fun i => hT10.out.o.free i
            go_upto_region 14 with fail
            obtain ⟨j36, ji, jz0, jz1, jz2⟩ := info_parts Tryz.infoGh
            have gbz : Gr w10 (w10.alloc (.cells #[.int .i64 x.e.par, .int .i64 x.e.srv.k, .int .i64 x.e.srv.q, .int .i64 x.e.srv.t, .int .i64 0] 65)).drew := ((Gr.refl w10).alloc _).drew
            have hWz := hT10.out.t.gr gbz
            have hGz := hWz.g
            have hxz : RecsAt 5 Gh.cells (w10.alloc (.cells #[.int .i64 x.e.par, .int .i64 x.e.srv.k, .int .i64 x.e.srv.q, .int .i64 x.e.srv.t, .int .i64 0] 65)).drew (some ⟨w10.heap.size, 0, none⟩) [(⟨x.e.par, x.e.srv, 0⟩ : Gh)] := (RecsIn.grx (K := Any) ⟨recs_alloc Gh.cells_len w10 [(⟨x.e.par, x.e.srv, 0⟩ : Gh)] 65 #[.int .i64 x.e.par, .int .i64 x.e.srv.k, .int .i64 x.e.srv.q, .int .i64 x.e.srv.t, .int .i64 0] (by simp), fun _ _ _ => trivial⟩ ((Gr.refl _).drew.x []) (fun _ h => by cases h)).1
            have hBt := hT10.out.hB
            have hbz2 : B ≤ (w10.alloc (.cells #[.int .i64 x.e.par, .int .i64 x.e.srv.k, .int .i64 x.e.srv.q, .int .i64 x.e.srv.t, .int .i64 0] 65)).drew.heap.size := by have := gbz.size; have := hT10.out.o.lt; omega
            have hTz := hT10.out.o.gr gbz
            have hOz2 := hO10.out.gr gbz
            have hRz2 := hR10.out.gr gbz
            have hnt : (Value.slice T.ag T.G.length T.cg).ownBlock ≠ some tb := owns_blk hT10.out.t.g hT10.out.o (by decide)
            have hno : (Value.slice T.ag T.G.length T.cg).ownBlock ≠ some w.heap.size := owns_blk hT10.out.t.g hO10.out (by decide)
            have hnr : (Value.slice T.ag T.G.length T.cg).ownBlock ≠ some (w.heap.size + 1) := owns_blk hT10.out.t.g hR10.out (by decide)
            replace hWz := Lib.hid hWz
            replace hGz := Lib.hid hGz
            replace hxz := Lib.hid hxz
            replace hTz := Lib.hid hTz
            replace hOz2 := Lib.hid hOz2
            replace hRz2 := Lib.hid hRz2
            replace hnt := Lib.hid hnt
            replace hno := Lib.hid hno
            replace hnr := Lib.hid hnr
            refine wp_region_Z 18 (fun w' => w'.cell? ⟨tb, 0, none⟩ = some (.slice T.an T.N.length T.cn) ∧ w'.cell? ⟨tb, 1, none⟩ = some (.slice T.ag T.G.length T.cg) ∧ w'.cell? ⟨tb, 2, none⟩ = some (.int .i64 T.last) ∧ w'.cell? ⟨tb, 3, none⟩ = some (.int .i64 T.now) ∧ w'.cell? ⟨w.heap.size, 0, none⟩ = some (.int .i64 o.kd) ∧ w'.cell? ⟨w.heap.size, 1, none⟩ = some (.int .i64 o.id) ∧ w'.cell? ⟨w.heap.size, 2, none⟩ = some (.int .i64 o.srv.k) ∧ w'.cell? ⟨w.heap.size, 3, none⟩ = some (.int .i64 o.srv.q) ∧ w'.cell? ⟨w.heap.size, 4, none⟩ = some (.int .i64 o.srv.t) ∧ w'.cell? ⟨w.heap.size, 5, none⟩ = some (.int .i64 o.pol) ∧ w'.cell? ⟨w.heap.size, 6, none⟩ = some (.slice oa o.tasks.length oc) ∧ w'.cell? ⟨w.heap.size, 7, none⟩ = some (.int .i64 o.at_) ∧ w'.cell? ⟨nb, i * 7, none⟩ = some (.int .i64 x.e.id) ∧ w'.cell? ⟨nb, i * 7 + 1, none⟩ = some (.int .i64 x.e.par) ∧ w'.cell? ⟨nb, i * 7 + 2, none⟩ = some (.int .i64 x.e.srv.k) ∧ w'.cell? ⟨nb, i * 7 + 3, none⟩ = some (.int .i64 x.e.srv.q) ∧ w'.cell? ⟨nb, i * 7 + 4, none⟩ = some (.int .i64 x.e.srv.t) ∧ w'.cell? ⟨nb, i * 7 + 5, none⟩ = some (.int .i64 x.e.pol) ∧ w'.cell? ⟨nb, i * 7 + 6, none⟩ = some (.slice x.a x.e.tasks.length x.c)) (by kernel_rfl) ?_
            have hS0 : (fun w' => w'.cell? ⟨tb, 0, none⟩ = some (.slice T.an T.N.length T.cn) ∧ w'.cell? ⟨tb, 1, none⟩ = some (.slice T.ag T.G.length T.cg) ∧ w'.cell? ⟨tb, 2, none⟩ = some (.int .i64 T.last) ∧ w'.cell? ⟨tb, 3, none⟩ = some (.int .i64 T.now) ∧ w'.cell? ⟨w.heap.size, 0, none⟩ = some (.int .i64 o.kd) ∧ w'.cell? ⟨w.heap.size, 1, none⟩ = some (.int .i64 o.id) ∧ w'.cell? ⟨w.heap.size, 2, none⟩ = some (.int .i64 o.srv.k) ∧ w'.cell? ⟨w.heap.size, 3, none⟩ = some (.int .i64 o.srv.q) ∧ w'.cell? ⟨w.heap.size, 4, none⟩ = some (.int .i64 o.srv.t) ∧ w'.cell? ⟨w.heap.size, 5, none⟩ = some (.int .i64 o.pol) ∧ w'.cell? ⟨w.heap.size, 6, none⟩ = some (.slice oa o.tasks.length oc) ∧ w'.cell? ⟨w.heap.size, 7, none⟩ = some (.int .i64 o.at_) ∧ w'.cell? ⟨nb, i * 7, none⟩ = some (.int .i64 x.e.id) ∧ w'.cell? ⟨nb, i * 7 + 1, none⟩ = some (.int .i64 x.e.par) ∧ w'.cell? ⟨nb, i * 7 + 2, none⟩ = some (.int .i64 x.e.srv.k) ∧ w'.cell? ⟨nb, i * 7 + 3, none⟩ = some (.int .i64 x.e.srv.q) ∧ w'.cell? ⟨nb, i * 7 + 4, none⟩ = some (.int .i64 x.e.srv.t) ∧ w'.cell? ⟨nb, i * 7 + 5, none⟩ = some (.int .i64 x.e.pol) ∧ w'.cell? ⟨nb, i * 7 + 6, none⟩ = some (.slice x.a x.e.tasks.length x.c)) w10.drew := by (dsimp only; simp (maxDischargeDepth := 8) [go_sem, *])
            refine wpAnyZ_take (i := 0) (v := ?v0) rfl (by kernel_rfl) (by kernel_rfl) (by kernel_rfl) (by kernel_rfl) (fun _ _ _ h => h) (by rfl) ?y0 hS0 ?r0
            case y0 => (intro w hSw; (try dsimp only at hSw); go_simp; try with_reducible rfl)
            try simp only [Act.put, List.setIfInBounds_toArray]
            refine wpAnyZ_take (i := 1) (v := ?v1) rfl (by kernel_rfl) (by kernel_rfl) (by kernel_rfl) (by kernel_rfl) (fun _ _ _ h => h) (by rfl) ?y1 hS0 ?r1
            case y1 => (intro w hSw; (try dsimp only at hSw); go_simp; try with_reducible rfl)
            try simp only [Act.put]
            refine wpAnyZ_take (i := 2) (v := ?v2) rfl (by kernel_rfl) (by kernel_rfl) (by kernel_rfl) (by kernel_rfl) (fun _ _ _ h => h) (by rfl) ?y2 hS0 ?r2
            case y2 => (intro w hSw; (try dsimp only at hSw); go_simp; try with_reducible rfl)
            try simp only [Act.put]
            refine wpAnyZ_take (i := 3) (v := ?v3) rfl (by kernel_rfl) (by kernel_rfl) (by kernel_rfl) (by kernel_rfl) (fun _ _ _ h => h) (by rfl) ?y3 hS0 ?r3
            case y3 => (intro w hSw; (try dsimp only at hSw); go_simp; try with_reducible rfl)
            try simp only [Act.put]
            refine wpAnyZ_take (i := 4) (v := ?v4) rfl (by kernel_rfl) (by kernel_rfl) (by kernel_rfl) (by kernel_rfl) (fun _ _ _ h => h) (by rfl) ?y4 hS0 ?r4
            case y4 => (intro w hSw; (try dsimp only at hSw); go_simp; try with_reducible rfl)
            try simp only [Act.put]
            refine wpAnyZ_take (i := 5) (v := ?v5) rfl (by kernel_rfl) (by kernel_rfl) (by kernel_rfl) (by kernel_rfl) (fun _ _ _ h => h) (by rfl) ?y5 hS0 ?r5
            case y5 => (intro w hSw; (try dsimp only at hSw); go_simp; try with_reducible rfl)
            try simp only [Act.put]
            refine wpAnyZ_take (i := 6) (v := ?v6) rfl (by kernel_rfl) (by kernel_rfl) (by kernel_rfl) (by kernel_rfl) (fun _ _ _ h => h) (by rfl) ?y6 hS0 ?r6
            case y6 => (intro w hSw; (try dsimp only at hSw); go_simp; try with_reducible rfl)
            try simp only [Act.put]
            refine wpAnyZ_take (i := 7) (v := ?v7) rfl (by kernel_rfl) (by kernel_rfl) (by kernel_rfl) (by kernel_rfl) (fun _ _ _ h => h) (by rfl) ?y7 hS0 ?r7
            case y7 => (intro w hSw; (try dsimp only at hSw); go_simp; try with_reducible rfl)
            try simp only [Act.put]
            refine wpAnyZ_take (i := 8) (v := ?v8) rfl (by kernel_rfl) (by kernel_rfl) (by kernel_rfl) (by kernel_rfl) (fun _ _ _ h => h) (by rfl) ?y8 hS0 ?r8
            case y8 => (intro w hSw; (try dsimp only at hSw); go_simp; try with_reducible rfl)
            try simp only [Act.put]
            refine wpAnyZ_take (i := 9) (v := ?v9) rfl (by kernel_rfl) (by kernel_rfl) (by kernel_rfl) (by kernel_rfl) (fun _ _ _ h => h) (by rfl) ?y9 hS0 ?r9
            case y9 => (intro w hSw; (try dsimp only at hSw); go_simp; try with_reducible rfl)
            try simp only [Act.put]
            refine wpAnyZ_take (i := 10) (v := ?v10) rfl (by kernel_rfl) (by kernel_rfl) (by kernel_rfl) (by kernel_rfl) (fun _ _ _ h => h) (by rfl) ?y10 hS0 ?r10
            case y10 => (intro w hSw; (try dsimp only at hSw); go_simp; try with_reducible rfl)
            try simp only [Act.put]
            refine wpAnyZ_take (i := 11) (v := ?v11) rfl (by kernel_rfl) (by kernel_rfl) (by kernel_rfl) (by kernel_rfl) (fun _ _ _ h => h) (by rfl) ?y11 hS0 ?r11
            case y11 => (intro w hSw; (try dsimp only at hSw); go_simp; try with_reducible rfl)
            try simp only [Act.put]
            refine wpAnyZ_take (i := 12) (v := ?v12) rfl (by kernel_rfl) (by kernel_rfl) (by kernel_rfl) (by kernel_rfl) (fun _ _ _ h => h) (by rfl) ?y12 hS0 ?r12
            case y12 => (intro w hSw; (try dsimp only at hSw); go_simp; try with_reducible rfl)
            try simp only [Act.put]
            refine wpAnyZ_take (i := 13) (v := ?v13) rfl (by kernel_rfl) (by kernel_rfl) (by kernel_rfl) (by kernel_rfl) (fun _ _ _ h => h) (by rfl) ?y13 hS0 ?r13
            case y13 => (intro w hSw; (try dsimp only at hSw); go_simp; try with_reducible rfl)
            try simp only [Act.put]
            clear hS0
            refine wpAnyZ_one (i := 14) (by kernel_rfl) rfl (fun K hK => ?_)
            go_simp
            refine hK.out _ _ (fun _ => ?_) ?_
            · simp (maxDischargeDepth := 8) [go_sem, *]
            clear hK K
            try simp only [Act.put, List.setIfInBounds_toArray, List.set_cons_zero, List.set_cons_succ]
            refine wpAnyZ_one (i := 15) (by kernel_rfl) rfl (fun K hK => ?_)
            refine step_append_one (k := 5) (enc := Gh.cells) (by rfl) _ _ 33 (by rfl) B 65 j36 _ 40 Tryz.underlying33 ji jz0 jz1 jz2 rfl (by decide) Gh.cells_len Gh.cells_one (.slice T.ag T.G.length T.cg) T.G (by rfl) hGz.out w10.heap.size 1 (⟨x.e.par, x.e.srv, 0⟩ : Gh) (by rfl) hxz.out (by unfold maxLen; omega) (by omega) hbz2 ?_
            intro v12 w12 hown12 hgr12 hat12
            obtain ⟨a12, c12, e12, -, -, -⟩ := recs_of_owns Gh.cells_len hown12
            subst e12
            have hTe := hTz.out.grown hgr12 (fun e => hnt.out e.symm)
            have hOe := hOz2.out.grown hgr12 (fun e => hno.out e.symm)
            have hRe := hRz2.out.grown hgr12 (fun e => hnr.out e.symm)
            have hW12 := own_snocG hWz.out hown12 hgr12 hat12 (by omega)
            have u0 := hTe.cell (i := 0) (v := .slice T.an T.N.length T.cn) rfl
            have u1 := hTe.cell (i := 1) (v := .slice T.ag T.G.length T.cg) rfl
            have u2 := hTe.cell (i := 2) (v := .int .i64 T.last) rfl
            have u3 := hTe.cell (i := 3) (v := .int .i64 T.now) rfl
            have v0 := hOe.cell (i := 0) (v := .int .i64 o.kd) rfl
            have v1 := hOe.cell (i := 1) (v := .int .i64 o.id) rfl
            have v2 := hOe.cell (i := 2) (v := .int .i64 o.srv.k) rfl
            have v3 := hOe.cell (i := 3) (v := .int .i64 o.srv.q) rfl
            have v4 := hOe.cell (i := 4) (v := .int .i64 o.srv.t) rfl
            have v5 := hOe.cell (i := 5) (v := .int .i64 o.pol) rfl
            have v6 := hOe.cell (i := 6) (v := .slice oa o.tasks.length oc) rfl
            have v7 := hOe.cell (i := 7) (v := .int .i64 o.at_) rfl
            obtain ⟨knz, kn0, kn1, kn2, kn3, kn4, kn5, kn6⟩ := nd_at hW12 hnb.out hx.out
            have uf := fun i => hTe.free i
            have hS7 : (fun w' => w'.cell? ⟨tb, 0, none⟩ = some (.slice T.an T.N.length T.cn) ∧ w'.cell? ⟨tb, 1, none⟩ = some (.slice T.ag T.G.length T.cg) ∧ w'.cell? ⟨tb, 2, none⟩ = some (.int .i64 T.last) ∧ w'.cell? ⟨tb, 3, none⟩ = some (.int .i64 T.now) ∧ w'.cell? ⟨w.heap.size, 0, none⟩ = some (.int .i64 o.kd) ∧ w'.cell? ⟨w.heap.size, 1, none⟩ = some (.int .i64 o.id) ∧ w'.cell? ⟨w.heap.size, 2, none⟩ = some (.int .i64 o.srv.k) ∧ w'.cell? ⟨w.heap.size, 3, none⟩ = some (.int .i64 o.srv.q) ∧ w'.cell? ⟨w.heap.size, 4, none⟩ = some (.int .i64 o.srv.t) ∧ w'.cell? ⟨w.heap.size, 5, none⟩ = some (.int .i64 o.pol) ∧ w'.cell? ⟨w.heap.size, 6, none⟩ = some (.slice oa o.tasks.length oc) ∧ w'.cell? ⟨w.heap.size, 7, none⟩ = some (.int .i64 o.at_) ∧ w'.cell? ⟨nb, i * 7, none⟩ = some (.int .i64 x.e.id) ∧ w'.cell? ⟨nb, i * 7 + 1, none⟩ = some (.int .i64 x.e.par) ∧ w'.cell? ⟨nb, i * 7 + 2, none⟩ = some (.int .i64 x.e.srv.k) ∧ w'.cell? ⟨nb, i * 7 + 3, none⟩ = some (.int .i64 x.e.srv.q) ∧ w'.cell? ⟨nb, i * 7 + 4, none⟩ = some (.int .i64 x.e.srv.t) ∧ w'.cell? ⟨nb, i * 7 + 5, none⟩ = some (.int .i64 x.e.pol) ∧ w'.cell? ⟨nb, i * 7 + 6, none⟩ = some (.slice x.a x.e.tasks.length x.c)) w12 := ⟨u0, u1, u2, u3, v0, v1, v2, v3, v4, v5, v6, v7, kn0, kn1, kn2, kn3, kn4, kn5, kn6⟩
            replace hTe := Lib.hid hTe
            replace hOe := Lib.hid hOe
            replace hRe := Lib.hid hRe
            replace hown12 := Lib.hid hown12
            replace hgr12 := Lib.hid hgr12
            replace hat12 := Lib.hid hat12
            replace hW12 := Lib.hid hW12
            refine hK.out _ _ (fun _ => hS7) ?_
            clear hK K
            try simp only [Act.put, List.setIfInBounds_toArray]
            refine wpAnyZ_one (i := 16) (by kernel_rfl) rfl (fun K hK => ?_)
            go_simp
            refine hK.out _ _ (fun _ => hS7) ?_
            clear hK K
            try simp only [Act.put, List.setIfInBounds_toArray, List.set_cons_zero, List.set_cons_succ]
            refine wpAnyZ_one (i := 17) (by kernel_rfl) rfl (fun K hK => ?_)
            go_simp
            refine hK.out _ _ (fun _ => hS7) ?_
            clear hK K
            try simp only [Act.put, List.setIfInBounds_toArray, List.set_cons_zero, List.set_cons_succ]
            refine wpAnyZ_one (i := 18) (by kernel_rfl) rfl (fun K hK => ?_)
            clear hS7
            go_simp
            refine hK.out _ _ (fun h => absurd rfl h) ?_
            clear hK K
            try simp only [Act.put, List.setIfInBounds_toArray, List.set_cons_zero, List.set_cons_succ]
            refine wpAnyZ_done (by kernel_rfl) ?_ _
            refine NoPanic.normal ?_
            clear c0 c1 c2 c3 o0 o1 o2 o3 o4 o5 o6 o7
            clear fz
            clear kz k0 k1 k2 k3 k4 k5 k6
            obtain ⟨we, hwe⟩ : ∃ we, we = w12.setCell ⟨tb, 1, none⟩ (.slice a12 (T.G.length + 1) c12) := ⟨_, rfl⟩
            rw [← hwe]
            have hGl : (T.G ++ [(⟨x.e.par, x.e.srv, 0⟩ : Gh)]).length = T.G.length + 1 := by simp
            have gxe : GrX [tb] w12 we := by rw [hwe]; exact (GrX.refl _ _).set (.inl (by simp)) _
            have hOA : OutAt B we tb ⟨T.N, T.an, T.cn, T.G ++ [(⟨x.e.par, x.e.srv, 0⟩ : Gh)], a12, c12, T.last, T.now⟩ := by
              refine ⟨?_, hW12.out.ghosts gxe (fun k hk hm => owns_blk hW12.out.n hTe.out (by decide) (by rw [List.mem_singleton.1 hm] at hk; exact hk)) (fun y hy ad ha ht hm => hT10.out.b y hy ad ha ht (List.mem_singleton.1 hm)) _ _ (owns_gx hW12.out.g gxe (fun k hk hm => owns_blk hW12.out.g hTe.out (by decide) (by rw [List.mem_singleton.1 hm] at hk; exact hk))) hW12.out.dg hW12.out.l2, hBt, hT10.out.b⟩
              rw [hwe]
              dsimp only [TM.row]
              rw [hGl]
              exact hTe.out.set 1 _
            have htl := hlt.out tb (.inl rfl)
            have hOe2 : Blk we w.heap.size #[.int .i64 o.kd, .int .i64 o.id, .int .i64 o.srv.k, .int .i64 o.srv.q, .int .i64 o.srv.t, .int .i64 o.pol, .slice oa o.tasks.length oc, .int .i64 o.at_] 27 := by rw [hwe]; exact hOe.out.other (by show w.heap.size ≠ tb; omega) _
            have hRe2 : Blk we (w.heap.size + 1) #[.int .i64 0, .int .i64 0] 43 := by rw [hwe]; exact hRe.out.other (by show w.heap.size + 1 ≠ tb; omega) _
            have gWe : Gr W0 we := gxe.all ((gW10.trans gbz).grown hgr12.out (fun k hk => by have := (owns_lt hGz.out k hk).2; omega)) (fun y hy => by rw [List.mem_singleton.1 hy]; omega)
            clear u0 u1 u2 u3 v0 v1 v2 v3 v4 v5 v6 v7 uf
            clear knz kn0 kn1 kn2 kn3 kn4 kn5 kn6
            have v0 := hOe2.cell (i := 0) (v := .int .i64 o.kd) rfl
            have v1 := hOe2.cell (i := 1) (v := .int .i64 o.id) rfl
            have v2 := hOe2.cell (i := 2) (v := .int .i64 o.srv.k) rfl
            have v3 := hOe2.cell (i := 3) (v := .int .i64 o.srv.q) rfl
            have v4 := hOe2.cell (i := 4) (v := .int .i64 o.srv.t) rfl
            have v5 := hOe2.cell (i := 5) (v := .int .i64 o.pol) rfl
            have v6 := hOe2.cell (i := 6) (v := .slice oa o.tasks.length oc) rfl
            have v7 := hOe2.cell (i := 7) (v := .int .i64 o.at_) rfl
            obtain ⟨kz, k0, k1, k2, k3, k4, k5, k6⟩ := nd_at hOA.t hnb.out hx.out
            have kf := fun q => owns_free hOA.t.n hnb.out q
            dsimp only at kf
            replace hwe := Lib.hid hwe
            replace hOA := Lib.hid hOA
            replace hOe2 := Lib.hid hOe2
            replace hRe2 := Lib.hid hRe2
            go_upto_region 16 with fail
            obtain ⟨wf, hwf⟩ : ∃ wf, wf = ((we.setCell ⟨nb, i * 7 + 2, none⟩ (.int .i64 o.srv.k)).setCell ⟨nb, i * 7 + 3, none⟩ (.int .i64 o.srv.q)).setCell ⟨nb, i * 7 + 4, none⟩ (.int .i64 o.srv.t) := ⟨_, rfl⟩
            rw [← hwf]
            obtain ⟨y, hy⟩ : ∃ y : NdM, y = ⟨{x.e with srv := o.srv}, x.a, x.c⟩ := ⟨_, rfl⟩
            obtain ⟨gxf, hWf⟩ := own_srv hOA.out.t hnb.out hx.out o.srv hwf
            rw [← hy] at hWf
            have hob : (Value.slice T.an T.N.length T.cn).ownBlock = some nb := by rw [hnb.out]; rfl
            have hnl : (T.N.set i y).length = T.N.length := List.length_set ..
            have hgy : (T.N.set i y)[i]? = some y := List.getElem?_set_self (get_lt hx.out)
            have hbb : ∀ z ∈ T.N.set i y, ∀ ad, z.a = some ad → z.e.tasks ≠ [] → ad.block < w.heap.size ∧ ad.block ≠ tb := fun z hz ad ha ht => by
              rcases List.mem_or_eq_of_mem_set hz with hz | hz
              · exact ⟨hlt.out _ (.inr (.inr (.inr ⟨z, hz, ad, ha, ht, rfl⟩))), hT10.out.b z hz ad ha ht⟩
              · rw [hz, hy] at ha ht; exact ⟨hlt.out _ (.inr (.inr (.inr ⟨x, List.mem_of_getElem? hx.out, ad, ha, ht, rfl⟩))), hT10.out.b x (List.mem_of_getElem? hx.out) ad ha ht⟩
            have hOB : OutAt B wf tb ⟨T.N.set i y, T.an, T.cn, T.G ++ [(⟨x.e.par, x.e.srv, 0⟩ : Gh)], a12, c12, T.last, T.now⟩ := by
              refine ⟨?_, hWf, hBt, fun z hz ad ha ht => (hbb z hz ad ha ht).2⟩
              have h1 := hOA.out.o.grx gxf (fun hm => owns_blk hOA.out.t.n hOA.out.o (by decide) (by rw [List.mem_singleton.1 hm]; exact hob))
              dsimp only [TM.row] at h1 ⊢
              rw [hnl]
              exact h1
            have hRf := hRe2.out.grx gxf (fun hm => owns_blk hOA.out.t.n hRe2.out (by decide) (by rw [List.mem_singleton.1 hm]; exact hob))
            have hOf := hOe2.out.grx gxf (fun hm => owns_blk hOA.out.t.n hOe2.out (by decide) (by rw [List.mem_singleton.1 hm]; exact hob))
            have gWf : Gr W0 wf := gxf.all gWe (fun z hz => by rw [List.mem_singleton.1 hz]; have := (owns_lt hOA.out.t.n nb hob).2; omega)
            have hsn : Srt (T.N.set i y) := srt_set hs.out hx.out (by rw [hy])
            have hdr := drained_any W0 hE i0 i1 i3 ⟨T.N.set i y, T.an, T.cn, T.G ++ [(⟨x.e.par, x.e.srv, 0⟩ : Gh)], a12, c12, T.last, T.now⟩ wf tb B hOB hB0 gWf hsn x.e.par hn1 hn2
            clear v0 v1 v2 v3 v4 v5 v6 v7 kf
            clear kz k0 k1 k2 k3 k4 k5 k6
            have kp : wf.cell? ⟨nb, i * 7 + 1, none⟩ = some (.int .i64 x.e.par) := by have h1 := (nd_at hOB.t hnb.out hgy).2.2.1; rw [hy] at h1; exact h1
            replace hwf := Lib.hid hwf
            replace hy := Lib.hid hy
            replace hWf := Lib.hid hWf
            replace hob := Lib.hid hob
            replace hnl := Lib.hid hnl
            replace hgy := Lib.hid hgy
            replace hbb := Lib.hid hbb
            replace hOB := Lib.hid hOB
            replace hRf := Lib.hid hRf
            replace hOf := Lib.hid hOf
            replace hsn := Lib.hid hsn
            replace hdr := Lib.hid hdr
            go_wp2_with fail
            refine hdr.out.mono ?_
            rintro e w13 ⟨rfl, T3, hT3, hT3v, hT3N, gW13, gx13⟩
            have hins : ∀ z, z ∈ (a12.map (·.block)).toList → (Value.slice a12 (T.G ++ [(⟨x.e.par, x.e.srv, 0⟩ : Gh)]).length c12).ownBlock = some z := fun z hz => by
              cases hta : a12 with
              | none => rw [hta] at hz; cases hz
              | some q => rw [hta] at hz; simp at hz; rw [hz]; rfl
            have hR13 := hRf.out.grx gx13 (fun hm => owns_blk hOB.out.t.g hRf.out (by decide) (hins _ hm))
            have hO13 := hOf.out.grx gx13 (fun hm => owns_blk hOB.out.t.g hOf.out (by decide) (hins _ hm))
            have v1 := hO13.cell (i := 1) (v := .int .i64 o.id) rfl
            have r0 := hR13.cell (i := 0) (v := .int .i64 0) rfl
            have r1 := hR13.cell (i := 1) (v := .int .i64 0) rfl
            have rf := fun i => hR13.free i
            replace hR13 := Lib.hid hR13
            replace hO13 := Lib.hid hO13
            replace hT3 := Lib.hid hT3
            replace hT3v := Lib.hid hT3v
            clear kp
            go_wp2_with fail
            have hR9 : Blk ((w13.setCell ⟨w.heap.size + 1, 0, none⟩ (.int .i64 0)).setCell ⟨w.heap.size + 1, 1, none⟩ (.int .i64 o.id)) (w.heap.size + 1) #[.int .i64 0, .int .i64 o.id] 43 := (hR13.out.set 0 (.int .i64 0)).set 1 (.int .i64 o.id)
            have gx9 : GrX [w.heap.size + 1] w13 ((w13.setCell ⟨w.heap.size + 1, 0, none⟩ (.int .i64 0)).setCell ⟨w.heap.size + 1, 1, none⟩ (.int .i64 o.id)) := ((GrX.refl _ _).set (.inl (by simp)) _).set (.inl (by simp)) _
            have q0 := hR9.cell (i := 0) (v := .int .i64 0) rfl
            have q1 := hR9.cell (i := 1) (v := .int .i64 o.id) rfl
            refine bodyPost_ret (v := .agg #[.int .i64 0, .int .i64 o.id]) (by simp [results, Tryz.results98, go_sem, q0, q1]) rfl ?_
            have hVe : V = (TreeV.drained ⟨(T.N.set i y).map (·.e), T.G ++ [(⟨x.e.par, x.e.srv, 0⟩ : Gh)], T.last, T.now⟩ x.e.par, 0, o.id) := by
              rw [hV.out]
              unfold TreeV.resize; rw [if_neg (by rw [hleg.out]; decide), if_neg (by rw [← hZ.out, hz.out]; simp), hfx.out]; dsimp only; rw [if_neg (by rw [hpol.out]; simp), if_neg (by rw [← hL.out]; have := hlf.out; omega), if_neg (by rw [← hsd.out, ← hL.out, ← hLx.out, hk.out]; simp)]
              rw [set_nd (f := fun n => {n with srv := o.srv}) hs.out hx.out hid.out (by rw [hy.out])]
            have hTB : ∀ z, z ∈ [w.heap.size + 1] → ¬ treeB tb T3 z := fun z hz ht => by
              rw [List.mem_singleton.1 hz] at ht
              rcases ht with ht | ht | ht | ⟨u, hu, ad, ha, htt, hab⟩
              · omega
              · exact owns_blk hT3.out.t.n hR13.out (by decide) ht
              · exact owns_blk hT3.out.t.g hR13.out (by decide) ht
              · rw [hT3N] at hu
                have := (hbb.out u hu ad ha htt).1; omega
            rw [hVe]
            exact ⟨rfl, T3, hT3.out.away gx9 hTB, hT3v.out, gx9.all gW13 (fun z hz => by rw [List.mem_singleton.1 hz]; omega)⟩
    · have tp : (x.e.pol != 0) = true := by simpa using hpol
      replace hpol := Lib.hid hpol
      go_wp2_with fail
      clear kz k0 k1 k2 k3 k4 k5 k6
      refine (refused_any 3 _).mono ?_
      rintro e wz ⟨rfl, gz⟩
      have hRz := hR2.out.gr gz
      have hTz := hT2.out.gr gz
      have gWz := gW2.trans gz
      have r0 := hRz.cell (i := 0) (v := .int .i64 0) rfl
      have r1 := hRz.cell (i := 1) (v := .int .i64 0) rfl
      have rf := fun i => hRz.free i
      replace hRz := Lib.hid hRz
      replace hTz := Lib.hid hTz
      go_wp2_with fail
      have hR9 : Blk ((wz.setCell ⟨w.heap.size + 1, 0, none⟩ (.int .i64 3)).setCell ⟨w.heap.size + 1, 1, none⟩ (.int .i64 0)) (w.heap.size + 1) #[.int .i64 3, .int .i64 0] 43 := (hRz.out.set 0 (.int .i64 3)).set 1 (.int .i64 0)
      have gx : GrX [w.heap.size + 1] wz ((wz.setCell ⟨w.heap.size + 1, 0, none⟩ (.int .i64 3)).setCell ⟨w.heap.size + 1, 1, none⟩ (.int .i64 0)) := ((GrX.refl _ _).set (.inl (by simp)) _).set (.inl (by simp)) _
      have q0 := hR9.cell (i := 0) (v := .int .i64 3) rfl
      have q1 := hR9.cell (i := 1) (v := .int .i64 0) rfl
      refine bodyPost_ret (v := .agg #[.int .i64 3, .int .i64 0]) (by simp [results, Tryz.results98, go_sem, q0, q1]) rfl ?_
      have hVe : V = (T.v, 3, 0) := by rw [hV.out]; unfold TreeV.resize; rw [if_neg (by rw [hleg.out]; decide), if_neg (by rw [← hZ.out, hz.out]; simp), hfx.out]; dsimp only; rw [if_pos hpol.out]
      rw [hVe]
      exact ⟨rfl, T, hTz.out.away gx (fun y hy ht => by have := hlt.out y ht; simp at hy; omega), rfl, gx.all gWz (fun y hy => by simp at hy; have := hg0z; omega)⟩
end Go.Proofs.YtglfdnfojpdkjaaGreatDoor
