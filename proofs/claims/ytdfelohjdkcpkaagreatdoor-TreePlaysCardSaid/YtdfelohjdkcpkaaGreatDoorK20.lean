/- almonerref13: Server, no, Kids, Counted. Printed by gen_f3.py. -/
import Derived.Test.YtdfelohjdkcpkaaGreatDoorK11
import Derived.Test.YtdfelohjdkcpkaaGreatDoorK19
import Derived.Test.YtdfelohjdkcpkaaGreatDoorK10
namespace Go.Proofs.YtdfelohjdkcpkaaGreatDoor
open Go.RowKit
set_option maxRecDepth 100000 in
set_option maxHeartbeats 3200000 in
theorem rsrv_no (T:TM) (id:Int) (w:World) (h:TreeAt Any w T) (hf:∀ x ∈ T.N,x.e.id ≠ id) :
 Calls Tryz.prog 57 #[.agg T.row,.int .i64 id] w fun e w' => e = .returned (.tuple #[.agg #[.int .i64 0,.int .i64 0,.int .i64 0],.bool (decide (id = 0))])∧Gr w w':=by
 obtain ⟨W,hW⟩:∃ W,W = (w.alloc (.cells #[.slice T.an T.N.length T.cn,.slice T.ag T.G.length T.cg,.int .i64 T.last,.int .i64 T.now] 27)).alloc (.cells #[.int .i64 0,.int .i64 0,.int .i64 0] 29):=⟨_,rfl⟩
 have gW:Gr w W:=by rw [hW];exact ((Gr.refl w).alloc _).alloc _
 have hO:Blk W (w.heap.size) #[.slice T.an T.N.length T.cn,.slice T.ag T.G.length T.cg,.int .i64 T.last,.int .i64 T.now] 27:=by
  rw [hW];have:=Blk.new (w) #[.slice T.an T.N.length T.cn,.slice T.ag T.G.length T.cg,.int .i64 T.last,.int .i64 T.now] 27;exact (this).alloc _
 have hR:Blk W (w.heap.size + 1) #[.int .i64 0,.int .i64 0,.int .i64 0] 29:=by
  rw [hW];have:=Blk.new ((w).alloc (.cells #[.slice T.an T.N.length T.cn,.slice T.ag T.G.length T.cg,.int .i64 T.last,.int .i64 T.now] 27)) #[.int .i64 0,.int .i64 0,.int .i64 0] 29;rw [World.size_alloc] at this;exact this
 have hWz:W.heap.size = w.heap.size + 2:=by rw [hW];simp
 have hfd:=fun w' (g:Gr w w') => rfind_no T id w' (h.gr g) hf
 have o0:=hO.cell (i:=0) (v:=.slice T.an T.N.length T.cn) rfl;have o1:=hO.cell (i:=1) (v:=.slice T.ag T.G.length T.cg) rfl;have o2:=hO.cell (i:=2) (v:=.int .i64 T.last) rfl;have o3:=hO.cell (i:=3) (v:=.int .i64 T.now) rfl;replace hW:=Lib.hid hW;replace hO:=Lib.hid hO;replace hR:=Lib.hid hR;replace h:=Lib.hid h;replace hWz:=Lib.hid hWz;replace hf:=Lib.hid hf;replace hfd:=Lib.hid hfd;go_enter Tryz.func57,Tryz.ntmps57;go_upto_region 1 with fail
 rw [← hW.out];go_wp2_with fail;refine (hfd.out W gW).mono ?_;rintro e w1 ⟨rfl,g1⟩;have hR1:=hR.out.gr g1;clear o0 o1 o2 o3;have hwz:=hWz.out;have hgz:=g1.size;obtain ⟨w2,hw2⟩:∃ w2,w2 = w1.alloc (.cells #[.int .i64 0,.int .i64 0,.int .i64 0,.int .i64 0,.int .i64 0,.int .i64 0,.slice none 0 0] 39):=⟨_,rfl⟩
 have g2:Gr w1 w2:=by rw [hw2];exact (Gr.refl _).alloc _
 have hN2:Blk w2 w1.heap.size #[.int .i64 0,.int .i64 0,.int .i64 0,.int .i64 0,.int .i64 0,.int .i64 0,.slice none 0 0] 39:=by rw [hw2];exact Blk.new _ _ _
 have hR2:=hR1.gr g2;replace hw2:=Lib.hid hw2;replace hR1:=Lib.hid hR1;go_upto_region 2 with fail
 rw [← hw2.out];have n0:=hN2.cell (i:=0) (v:=.int .i64 0) rfl;have n1:=hN2.cell (i:=1) (v:=.int .i64 0) rfl;have n2:=hN2.cell (i:=2) (v:=.int .i64 0) rfl;have n3:=hN2.cell (i:=3) (v:=.int .i64 0) rfl;have n4:=hN2.cell (i:=4) (v:=.int .i64 0) rfl;have n5:=hN2.cell (i:=5) (v:=.int .i64 0) rfl;have n6:=hN2.cell (i:=6) (v:=.slice none 0 0) rfl;have r0:=hR2.cell (i:=0) (v:=.int .i64 0) rfl;have r1:=hR2.cell (i:=1) (v:=.int .i64 0) rfl;have r2:=hR2.cell (i:=2) (v:=.int .i64 0) rfl;have fr:=fun i => hR2.free i
 replace hN2:=Lib.hid hN2;replace hR2:=Lib.hid hR2;by_cases h0:id = 0
 ·have tz:(id == 0) = true:=by simpa using h0
  have hid:decide (id = 0) = true:=decide_eq_true h0;replace h0:=Lib.hid h0;replace hid:=Lib.hid hid;go_wp2_with fail;obtain ⟨w9,hw9⟩:∃ w9,w9 = ((w2.setCell ⟨w.heap.size + 1,0,none⟩ (.int .i64 0)).setCell ⟨w.heap.size + 1,1,none⟩ (.int .i64 0)).setCell ⟨w.heap.size + 1,2,none⟩ (.int .i64 0):=⟨_,rfl⟩
  rw [← hw9];have gxw9:GrX [w.heap.size + 1] w2 w9:=by
   rw [hw9];exact ((((GrX.refl _ _).set (.inl (by simp)) _).set (.inl (by simp)) _).set (.inl (by simp)) _)
  have hR9:Blk w9 (w.heap.size + 1) #[.int .i64 0,.int .i64 0,.int .i64 0] 29:=by
   rw [hw9];exact (((hR2.out.set 0 (.int .i64 0)).set 1 (.int .i64 0)).set 2 (.int .i64 0))
  have d0:=hR9.cell (i:=0) (v:=.int .i64 0) rfl;have d1:=hR9.cell (i:=1) (v:=.int .i64 0) rfl;have d2:=hR9.cell (i:=2) (v:=.int .i64 0) rfl;refine bodyPost_ret (v:=.tuple #[.agg #[.int .i64 0,.int .i64 0,.int .i64 0],.bool true]) (by simp [results,Tryz.results57,go_sem,d0,d1,d2]) rfl ⟨by rw [hid.out],?_⟩;exact gxw9.all ((gW.trans g1).trans g2) (fun y hy => by simp at hy;omega)
 ·have tz:(id == 0) = false:=by simpa using h0
  have hid:decide (id = 0) = false:=decide_eq_false h0;replace h0:=Lib.hid h0;replace hid:=Lib.hid hid;go_wp2_with fail;obtain ⟨w9,hw9⟩:∃ w9,w9 = ((w2.setCell ⟨w.heap.size + 1,0,none⟩ (.int .i64 0)).setCell ⟨w.heap.size + 1,1,none⟩ (.int .i64 0)).setCell ⟨w.heap.size + 1,2,none⟩ (.int .i64 0):=⟨_,rfl⟩
  rw [← hw9];have gxw9:GrX [w.heap.size + 1] w2 w9:=by
   rw [hw9];exact ((((GrX.refl _ _).set (.inl (by simp)) _).set (.inl (by simp)) _).set (.inl (by simp)) _)
  have hR9:Blk w9 (w.heap.size + 1) #[.int .i64 0,.int .i64 0,.int .i64 0] 29:=by
   rw [hw9];exact (((hR2.out.set 0 (.int .i64 0)).set 1 (.int .i64 0)).set 2 (.int .i64 0))
  have d0:=hR9.cell (i:=0) (v:=.int .i64 0) rfl;have d1:=hR9.cell (i:=1) (v:=.int .i64 0) rfl;have d2:=hR9.cell (i:=2) (v:=.int .i64 0) rfl;refine bodyPost_ret (v:=.tuple #[.agg #[.int .i64 0,.int .i64 0,.int .i64 0],.bool false]) (by simp [results,Tryz.results57,go_sem,d0,d1,d2]) rfl ⟨by rw [hid.out],?_⟩;exact gxw9.all ((gW.trans g1).trans g2) (fun y hy => by simp at hy;omega)
set_option maxRecDepth 100000 in
set_option maxHeartbeats 3200000 in
theorem rsrv_yes (T:TM) (id:Int) (w:World) (h:TreeAt Any w T) {i:Nat} {x:NdM} (hf:FstN T.N id i x) :
 Calls Tryz.prog 57 #[.agg T.row,.int .i64 id] w fun e w' => e = .returned (.tuple #[.agg #[.int .i64 x.e.srv.k,.int .i64 x.e.srv.q,.int .i64 x.e.srv.t],.bool true])∧Gr w w':=by
 obtain ⟨W,hW⟩:∃ W,W = (w.alloc (.cells #[.slice T.an T.N.length T.cn,.slice T.ag T.G.length T.cg,.int .i64 T.last,.int .i64 T.now] 27)).alloc (.cells #[.int .i64 0,.int .i64 0,.int .i64 0] 29):=⟨_,rfl⟩
 have gW:Gr w W:=by rw [hW];exact ((Gr.refl w).alloc _).alloc _
 have hO:Blk W (w.heap.size) #[.slice T.an T.N.length T.cn,.slice T.ag T.G.length T.cg,.int .i64 T.last,.int .i64 T.now] 27:=by
  rw [hW];have:=Blk.new (w) #[.slice T.an T.N.length T.cn,.slice T.ag T.G.length T.cg,.int .i64 T.last,.int .i64 T.now] 27;exact (this).alloc _
 have hR:Blk W (w.heap.size + 1) #[.int .i64 0,.int .i64 0,.int .i64 0] 29:=by
  rw [hW];have:=Blk.new ((w).alloc (.cells #[.slice T.an T.N.length T.cn,.slice T.ag T.G.length T.cg,.int .i64 T.last,.int .i64 T.now] 27)) #[.int .i64 0,.int .i64 0,.int .i64 0] 29;rw [World.size_alloc] at this;exact this
 have hWz:W.heap.size = w.heap.size + 2:=by rw [hW];simp
 have hfd:=fun w' (g:Gr w w') => rfind_yes T id w' (h.gr g) hf
 have o0:=hO.cell (i:=0) (v:=.slice T.an T.N.length T.cn) rfl;have o1:=hO.cell (i:=1) (v:=.slice T.ag T.G.length T.cg) rfl;have o2:=hO.cell (i:=2) (v:=.int .i64 T.last) rfl;have o3:=hO.cell (i:=3) (v:=.int .i64 T.now) rfl;replace hW:=Lib.hid hW;replace hO:=Lib.hid hO;replace hR:=Lib.hid hR;replace h:=Lib.hid h;replace hWz:=Lib.hid hWz;replace hf:=Lib.hid hf;replace hfd:=Lib.hid hfd;go_enter Tryz.func57,Tryz.ntmps57;go_upto_region 1 with fail
 rw [← hW.out];go_wp2_with fail;refine (hfd.out W gW).mono ?_;rintro e w1 ⟨rfl,g1⟩;have hR1:=hR.out.gr g1;clear o0 o1 o2 o3;have hwz:=hWz.out;have hgz:=g1.size;obtain ⟨w2,hw2⟩:∃ w2,w2 = w1.alloc (.cells #[.int .i64 x.e.id,.int .i64 x.e.par,.int .i64 x.e.srv.k,.int .i64 x.e.srv.q,.int .i64 x.e.srv.t,.int .i64 x.e.pol,.slice x.a x.e.tasks.length x.c] 39):=⟨_,rfl⟩
 have g2:Gr w1 w2:=by rw [hw2];exact (Gr.refl _).alloc _
 have hN2:Blk w2 w1.heap.size #[.int .i64 x.e.id,.int .i64 x.e.par,.int .i64 x.e.srv.k,.int .i64 x.e.srv.q,.int .i64 x.e.srv.t,.int .i64 x.e.pol,.slice x.a x.e.tasks.length x.c] 39:=by rw [hw2];exact Blk.new _ _ _
 have hR2:=hR1.gr g2;replace hw2:=Lib.hid hw2;replace hR1:=Lib.hid hR1;go_upto_region 2 with fail
 rw [← hw2.out];have n0:=hN2.cell (i:=0) (v:=.int .i64 x.e.id) rfl;have n1:=hN2.cell (i:=1) (v:=.int .i64 x.e.par) rfl;have n2:=hN2.cell (i:=2) (v:=.int .i64 x.e.srv.k) rfl;have n3:=hN2.cell (i:=3) (v:=.int .i64 x.e.srv.q) rfl;have n4:=hN2.cell (i:=4) (v:=.int .i64 x.e.srv.t) rfl;have n5:=hN2.cell (i:=5) (v:=.int .i64 x.e.pol) rfl;have n6:=hN2.cell (i:=6) (v:=.slice x.a x.e.tasks.length x.c) rfl;have r0:=hR2.cell (i:=0) (v:=.int .i64 0) rfl;have r1:=hR2.cell (i:=1) (v:=.int .i64 0) rfl;have r2:=hR2.cell (i:=2) (v:=.int .i64 0) rfl;have fr:=fun i => hR2.free i
 replace hN2:=Lib.hid hN2;replace hR2:=Lib.hid hR2;go_wp2_with fail;obtain ⟨w9,hw9⟩:∃ w9,w9 = ((w2.setCell ⟨w.heap.size + 1,0,none⟩ (.int .i64 x.e.srv.k)).setCell ⟨w.heap.size + 1,1,none⟩ (.int .i64 x.e.srv.q)).setCell ⟨w.heap.size + 1,2,none⟩ (.int .i64 x.e.srv.t):=⟨_,rfl⟩
 rw [← hw9];have gxw9:GrX [w.heap.size + 1] w2 w9:=by
  rw [hw9];exact ((((GrX.refl _ _).set (.inl (by simp)) _).set (.inl (by simp)) _).set (.inl (by simp)) _)
 have hR9:Blk w9 (w.heap.size + 1) #[.int .i64 x.e.srv.k,.int .i64 x.e.srv.q,.int .i64 x.e.srv.t] 29:=by
  rw [hw9];exact (((hR2.out.set 0 (.int .i64 x.e.srv.k)).set 1 (.int .i64 x.e.srv.q)).set 2 (.int .i64 x.e.srv.t))
 have d0:=hR9.cell (i:=0) (v:=.int .i64 x.e.srv.k) rfl;have d1:=hR9.cell (i:=1) (v:=.int .i64 x.e.srv.q) rfl;have d2:=hR9.cell (i:=2) (v:=.int .i64 x.e.srv.t) rfl;refine bodyPost_ret (v:=.tuple #[.agg #[.int .i64 x.e.srv.k,.int .i64 x.e.srv.q,.int .i64 x.e.srv.t],.bool true]) (by simp [results,Tryz.results57,go_sem,d0,d1,d2]) rfl ⟨rfl,?_⟩;exact gxw9.all ((gW.trans g1).trans g2) (fun y hy => by simp at hy;omega)
theorem rsrv_any (T:TM) (id:Int) (w:World) (h:TreeAt Any w T) (hp:∀ x ∈ T.N,1≤x.e.id) :
 Calls Tryz.prog 57 #[.agg T.row,.int .i64 id] w (SrvP (T.v.server id) w):=by
 have hno:(∀ x ∈ T.N,x.e.id ≠ id)→T.v.find id = none:=fun hf => by
  unfold TreeV.find;show List.find? _ (T.N.map (·.e)) = _;rw [List.find?_eq_none];intro y hy;obtain ⟨z,hz,rfl⟩:=List.mem_map.1 hy;simpa using hf z hz
 rcases fst_cases T.N id with ⟨i,x,hf⟩ | hf
 ·refine (rsrv_yes T id w h hf).mono ?_;rintro e w' ⟨rfl,g⟩;have h1:=hp x (get_mem hf.1);have h2:=hf.2.1;have hs:T.v.server id = some x.e.srv:=by
   unfold TreeV.server;rw [if_neg (by omega),fst_find hf];rfl
  exact ⟨x.e.srv,by rw [hs];rfl,by rw [hs];rfl,g⟩
 ·refine (rsrv_no T id w h hf).mono ?_;rintro e w' ⟨rfl,g⟩;by_cases h0:id = 0
  ·have hs:T.v.server id = some rootS:=by unfold TreeV.server;rw [if_pos h0]
   exact ⟨rootS,by rw [hs];rfl,by rw [hs,decide_eq_true h0];rfl,g⟩
  ·have hs:T.v.server id = none:=by unfold TreeV.server;rw [if_neg h0,hno hf];rfl
   exact ⟨rootS,by rw [hs];rfl,by rw [hs,decide_eq_false h0];rfl,g⟩
set_option maxRecDepth 100000 in
set_option maxHeartbeats 3200000 in
theorem rno_any (T:TM) (c:Int) (w:World) :
 Calls Tryz.prog 49 #[.agg T.row,.int .i64 c] w fun e w' => e = .returned (.tuple #[.agg T.row,.agg #[.int .i64 c,.int .i64 0]])∧Gr w w':=by
 obtain ⟨W,hW⟩:∃ W,W = ((w.alloc (.cells #[.slice T.an T.N.length T.cn,.slice T.ag T.G.length T.cg,.int .i64 T.last,.int .i64 T.now] 27)).alloc (.cells #[.slice none 0 0,.slice none 0 0,.int .i64 0,.int .i64 0] 27)).alloc (.cells #[.int .i64 0,.int .i64 0] 34):=⟨_,rfl⟩
 have gW:Gr w W:=by rw [hW];exact (((Gr.refl w).alloc _).alloc _).alloc _
 have hO:Blk W (w.heap.size) #[.slice T.an T.N.length T.cn,.slice T.ag T.G.length T.cg,.int .i64 T.last,.int .i64 T.now] 27:=by
  rw [hW];have:=Blk.new (w) #[.slice T.an T.N.length T.cn,.slice T.ag T.G.length T.cg,.int .i64 T.last,.int .i64 T.now] 27;exact ((this).alloc _).alloc _
 have hP:Blk W (w.heap.size + 1) #[.slice none 0 0,.slice none 0 0,.int .i64 0,.int .i64 0] 27:=by
  rw [hW];have:=Blk.new ((w).alloc (.cells #[.slice T.an T.N.length T.cn,.slice T.ag T.G.length T.cg,.int .i64 T.last,.int .i64 T.now] 27)) #[.slice none 0 0,.slice none 0 0,.int .i64 0,.int .i64 0] 27;rw [World.size_alloc] at this;exact (this).alloc _
 have hR:Blk W (w.heap.size + 1 + 1) #[.int .i64 0,.int .i64 0] 34:=by
  rw [hW];have:=Blk.new (((w).alloc (.cells #[.slice T.an T.N.length T.cn,.slice T.ag T.G.length T.cg,.int .i64 T.last,.int .i64 T.now] 27)).alloc (.cells #[.slice none 0 0,.slice none 0 0,.int .i64 0,.int .i64 0] 27)) #[.int .i64 0,.int .i64 0] 34;rw [World.size_alloc,World.size_alloc] at this;exact this
 have hWz:W.heap.size = w.heap.size + 3:=by rw [hW];simp
 have o0:=hO.cell (i:=0) (v:=.slice T.an T.N.length T.cn) rfl;have o1:=hO.cell (i:=1) (v:=.slice T.ag T.G.length T.cg) rfl;have o2:=hO.cell (i:=2) (v:=.int .i64 T.last) rfl;have o3:=hO.cell (i:=3) (v:=.int .i64 T.now) rfl;have p0:=hP.cell (i:=0) (v:=.slice none 0 0) rfl;have p1:=hP.cell (i:=1) (v:=.slice none 0 0) rfl;have p2:=hP.cell (i:=2) (v:=.int .i64 0) rfl;have p3:=hP.cell (i:=3) (v:=.int .i64 0) rfl;have r0:=hR.cell (i:=0) (v:=.int .i64 0) rfl;have r1:=hR.cell (i:=1) (v:=.int .i64 0) rfl;have fp:=fun i => hP.free i
 have fr:=fun i => hR.free i
 replace hW:=Lib.hid hW;replace hWz:=Lib.hid hWz;replace hO:=Lib.hid hO;have hP2:=Lib.hid hP;have hR2:=Lib.hid hR;clear hP hR;go_enter Tryz.func49,Tryz.ntmps49;go_upto_region 1 with fail
 rw [← hW.out];go_wp2_with fail;obtain ⟨w9,hw9⟩:∃ w9,w9 = (((((W.setCell ⟨w.heap.size + 1,0,none⟩ (.slice T.an T.N.length T.cn)).setCell ⟨w.heap.size + 1,1,none⟩ (.slice T.ag T.G.length T.cg)).setCell ⟨w.heap.size + 1,2,none⟩ (.int .i64 T.last)).setCell ⟨w.heap.size + 1,3,none⟩ (.int .i64 T.now)).setCell ⟨w.heap.size + 1 + 1,0,none⟩ (.int .i64 c)).setCell ⟨w.heap.size + 1 + 1,1,none⟩ (.int .i64 0):=⟨_,rfl⟩
 rw [← hw9];have gxw9:GrX [w.heap.size + 1,w.heap.size + 1 + 1] W w9:=by
  rw [hw9];exact (((((((GrX.refl _ _).set (.inl (by simp)) _).set (.inl (by simp)) _).set (.inl (by simp)) _).set (.inl (by simp)) _).set (.inl (by simp)) _).set (.inl (by simp)) _)
 have hP9:Blk w9 (w.heap.size + 1) #[.slice T.an T.N.length T.cn,.slice T.ag T.G.length T.cg,.int .i64 T.last,.int .i64 T.now] 27:=by
  rw [hw9];exact ((((((hP2.out.set 0 (.slice T.an T.N.length T.cn)).set 1 (.slice T.ag T.G.length T.cg)).set 2 (.int .i64 T.last)).set 3 (.int .i64 T.now)).other (a:=⟨w.heap.size + 1 + 1,0,none⟩) (by show w.heap.size + 1 ≠ w.heap.size + 1 + 1;omega) (.int .i64 c)).other (a:=⟨w.heap.size + 1 + 1,1,none⟩) (by show w.heap.size + 1 ≠ w.heap.size + 1 + 1;omega) (.int .i64 0))
 have hR9:Blk w9 (w.heap.size + 1 + 1) #[.int .i64 c,.int .i64 0] 34:=by
  rw [hw9];exact ((((((hR2.out.other (a:=⟨w.heap.size + 1,0,none⟩) (by show w.heap.size + 1 + 1 ≠ w.heap.size + 1;omega) (.slice T.an T.N.length T.cn)).other (a:=⟨w.heap.size + 1,1,none⟩) (by show w.heap.size + 1 + 1 ≠ w.heap.size + 1;omega) (.slice T.ag T.G.length T.cg)).other (a:=⟨w.heap.size + 1,2,none⟩) (by show w.heap.size + 1 + 1 ≠ w.heap.size + 1;omega) (.int .i64 T.last)).other (a:=⟨w.heap.size + 1,3,none⟩) (by show w.heap.size + 1 + 1 ≠ w.heap.size + 1;omega) (.int .i64 T.now)).set 0 (.int .i64 c)).set 1 (.int .i64 0))
 have d0:=hP9.cell (i:=0) (v:=.slice T.an T.N.length T.cn) rfl;have d1:=hP9.cell (i:=1) (v:=.slice T.ag T.G.length T.cg) rfl;have d2:=hP9.cell (i:=2) (v:=.int .i64 T.last) rfl;have d3:=hP9.cell (i:=3) (v:=.int .i64 T.now) rfl;have e0:=hR9.cell (i:=0) (v:=.int .i64 c) rfl;have e1:=hR9.cell (i:=1) (v:=.int .i64 0) rfl;refine bodyPost_ret (v:=.tuple #[.agg T.row,.agg #[.int .i64 c,.int .i64 0]]) (by simp [results,Tryz.results49,go_sem,d0,d1,d2,d3,e0,e1]) rfl ⟨rfl,?_⟩;exact gxw9.all gW (fun y hy => by simp at hy;omega)
def kidN (N:List NdM) (id:Int) (k:Nat):List NdM:=(N.take k).filter fun x => decide (x.e.par = id)
theorem kidN_succ {N:List NdM} {id:Int} {k:Nat} {x:NdM} (hx:N[k]? = some x):kidN N id (k + 1) = kidN N id k ++ if x.e.par = id then [x] else []:=by
 unfold kidN;rw [take_snoc hx,List.filter_append];congr 1;by_cases h:x.e.par = id <;> simp [h]
theorem kidN_len (N:List NdM) (id:Int) (k:Nat):(kidN N id k).length≤k:=by
 unfold kidN;have:=List.length_filter_le (fun x:NdM => decide (x.e.par = id)) (N.take k);simp at this ⊢;omega
def KidP (L:List NdM) (w:World) (e:Ending) (w':World):Prop:=∃ a c,e = .returned (.slice a L.length c)∧RecsIn (fun b => w.heap.size≤b) 7 NdM.cells w' a L∧Gr w w'
theorem GrX.grown13 {S:List Nat} {w a w':World} {row:Option Nat} (h:GrX S w a) (hg:a.grownBy w' row) (hr:∀ k,row = some k→k ∈ S ∨ w.heap.size≤k):GrX S w w':=by
 obtain ⟨g1,g2,g3,g4,g5⟩:=hg;refine ⟨g1.trans h.os,g2.trans h.tape,g3.trans h.output,Nat.le_trans h.size g4,fun k hk hn => ?_⟩;rw [g5 k (Nat.lt_of_lt_of_le hk h.size) (fun e => by rcases hr k e.symm with h1 | h1;exact hn h1;omega)];exact h.block k hk hn
theorem nd_get {K:Nat→Prop} {w:World} {a:Option Addr} {L:List NdM} (h:RecsIn K 7 NdM.cells w a L) {i:Nat} {x:NdM} (hx:L[i]? = some x) :
 ∃ b off,a = some ⟨b,off,none⟩∧b < w.heap.size∧w.cell? ⟨b,off + i * 7,none⟩ = some (.int .i64 x.e.id)∧w.cell? ⟨b,off + i * 7 + 1,none⟩ = some (.int .i64 x.e.par)∧w.cell? ⟨b,off + i * 7 + 2,none⟩ = some (.int .i64 x.e.srv.k)∧w.cell? ⟨b,off + i * 7 + 3,none⟩ = some (.int .i64 x.e.srv.q)∧w.cell? ⟨b,off + i * 7 + 4,none⟩ = some (.int .i64 x.e.srv.t)∧w.cell? ⟨b,off + i * 7 + 5,none⟩ = some (.int .i64 x.e.pol)∧w.cell? ⟨b,off + i * 7 + 6,none⟩ = some (.slice x.a x.e.tasks.length x.c):=by
 obtain ⟨b,off,ha,hb,hc⟩:=h.1 i x hx;exact ⟨b,off,ha,hb,hc 0 _ rfl,hc 1 _ rfl,hc 2 _ rfl,hc 3 _ rfl,hc 4 _ rfl,hc 5 _ rfl,hc 6 _ rfl⟩
set_option maxRecDepth 100000 in
set_option maxHeartbeats 3200000 in
theorem rkids_any (T:TM) (id:Int) (w:World) (h:TreeAt Any w T) :
 Calls Tryz.prog 99 #[.agg T.row,.int .i64 id] w (KidP (kidN T.N id T.N.length) w):=by
 obtain ⟨i24,hi,hz0,hz1,hz2⟩:=info_parts Tryz.infoNd;obtain ⟨W,hW⟩:∃ W,W = w.alloc (.cells T.row 27):=⟨_,rfl⟩
 have gW:Gr w W:=by rw [hW];exact (Gr.refl w).alloc _
 have hO:Blk W w.heap.size T.row 27:=by rw [hW];exact Blk.new w _ _
 have hTW:=h.gr gW;have o0:=hO.cell (i:=0) (v:=.slice T.an T.N.length T.cn) rfl;have hl1:=h.l1;have hl2:=h.l2;obtain ⟨N,an,cn,G,ag,cg,last,now⟩:=T;dsimp only at hl1 hl2 o0 ⊢;have hWa:w.heap.size < W.heap.size:=hO.lt;replace hW:=Lib.hid hW;replace hO:=Lib.hid hO;replace h:=Lib.hid h;replace hTW:=Lib.hid hTW;go_enter Tryz.func99,Tryz.ntmps99;go_upto_region 1 with fail
 rw [← hW.out];go_wp2_with fail;clear o0;go_loopw [12,5] (fun iv ov wr => ∃ k:Nat,k≤N.length∧iv = .int .i64 k∧Hid (wr.ownsRow W.heap.size 39 7 ov (kidN N id k).length ((kidN N id k).flatMap NdM.cells))∧Gr W wr) (fun iv _ _ => N.length - (intOf iv).toNat);case atStart => exact ⟨0,Nat.zero_le _,rfl,Lib.hid (owns_empty _ _ _ _ rfl _ (Nat.le_refl _)),(Gr.refl _).alloc _⟩
 case round =>
  obtain ⟨k,hk,rfl,hown,hg⟩:=hrel;by_cases hlt:k < N.length
  ·obtain ⟨x,hx⟩:=get_some N k hlt;obtain ⟨b,off,hab,hb,-,c0,c1,c2,c3,c4,c5,c6⟩:=(hTW.out.gr hg).n.get hx;dsimp only at hab;subst hab;have tk:(k:Int) < N.length:=by omega
   have hsu:=kidN_succ (id:=id) hx;have hln:=kidN_len N id k;have gz:=gW.size;have gz2:=hg.size;replace hx:=Lib.hid hx;by_cases hp:x.e.par = id
   ·rw [if_pos hp] at hsu;have tp:(x.e.par == id) = true:=by simpa using hp
    obtain ⟨wz,hwz⟩:∃ wz,wz = (wr.alloc (NdM.obj x)).alloc (NdM.obj x):=⟨_,rfl⟩
    have gzz:Gr wr wz:=by rw [hwz];exact ((Gr.refl wr).alloc _).alloc _
    have hO2:=owns_gr hown.out gzz;have hrec:RecsAt 7 NdM.cells wz (some ⟨wr.heap.size + 1,0,none⟩) [x]:=by
     rw [hwz];have:=recs_alloc NdM.cells_len (wr.alloc (NdM.obj x)) [x] 39 #[.int .i64 x.e.id,.int .i64 x.e.par,.int .i64 x.e.srv.k,.int .i64 x.e.srv.q,.int .i64 x.e.srv.t,.int .i64 x.e.pol,.slice x.a x.e.tasks.length x.c] (by simp);rw [World.size_alloc] at this;exact this
    have hbz:W.heap.size≤wz.heap.size:=by have:=gzz.size;omega
    have hbl:=owns_lt hown.out;have hsl:(kidN N id (k + 1)).length = (kidN N id k).length + 1:=by rw [hsu,List.length_append];rfl
    replace hbl:=Lib.hid hbl;replace hp:=Lib.hid hp;replace hsu:=Lib.hid hsu;replace hsl:=Lib.hid hsl;replace hwz:=Lib.hid hwz;replace hO2:=Lib.hid hO2;replace hrec:=Lib.hid hrec;go_wp2_with (at_builtin;(rw [← hwz.out];refine wpList_append_recs (k:=7) (enc:=NdM.cells) rfl _ _ 24 rfl W.heap.size 39 i24 _ 72 Tryz.underlying24 hi hz0 hz1 hz2 rfl (by decide) NdM.cells_len NdM.cells_one _ (kidN N id k) rfl hO2.out (some ⟨wr.heap.size + 1,0,none⟩) 1 [x] rfl hrec.out (fun h => by cases h) (by simp;unfold maxLen;omega) (by simp;omega) hbz ?_;intro v7 w7 hown7 hgr7;rw [← hsu.out] at hown7;have g7:Gr W w7:=(hg.trans gzz).grown hgr7 (fun y hy => (hbl.out y hy).2);replace hown7:=Lib.hid hown7));go_roundw;case rel => exact ⟨k + 1,by omega,by go_num,hown7,g7⟩
    case measure => simp [intOf];omega
   ·rw [if_neg hp,List.append_nil] at hsu;have tp:(x.e.par == id) = false:=by simpa using hp
    replace hp:=Lib.hid hp;replace hsu:=Lib.hid hsu;go_wp2_with fail;go_roundw;case rel => exact ⟨k + 1,by omega,by go_num,Lib.hid (owns_gr (by rw [hsu.out];exact hown.out) ((Gr.refl _).alloc _)),hg.alloc _⟩
    case measure => simp [intOf];omega
  ·have hkN:k = N.length:=by omega
   have tk:¬ (k:Int) < N.length:=by omega
   have tkb:decide ((k:Int) < N.length) = false:=decide_eq_false tk;rw [hkN] at hown;obtain ⟨a',c',hv,hrc,-,hbb⟩:=recs_of_owns NdM.cells_len hown.out;have gz:=gW.size;subst hv;replace hkN:=Lib.hid hkN;replace hrc:=Lib.hid hrc;go_wp2_with fail;go_ret;exact ⟨a',c',rfl,⟨hrc.out,fun x hx _ => by have:=hbb x hx;omega⟩,gW.trans hg⟩
set_option maxRecDepth 100000 in
set_option maxHeartbeats 3200000 in
theorem rcounted_any (T:TM) (id:Int) (w:World) (h:TreeAt Any w T) :
 Calls Tryz.prog 53 #[.agg T.row,.int .i64 id] w (CntP (T.v.counted id) w):=by
 obtain ⟨i24,hi,hz0,hz1,hz2⟩:=info_parts Tryz.infoSrv;obtain ⟨W,hW⟩:∃ W,W = w.alloc (.cells T.row 27):=⟨_,rfl⟩
 have gW:Gr w W:=by rw [hW];exact (Gr.refl w).alloc _
 have hO:Blk W w.heap.size T.row 27:=by rw [hW];exact Blk.new w _ _
 have hTW:=h.gr gW;have o0:=hO.cell (i:=0) (v:=.slice T.an T.N.length T.cn) rfl;have o1:=hO.cell (i:=1) (v:=.slice T.ag T.G.length T.cg) rfl;have o2:=hO.cell (i:=2) (v:=.int .i64 T.last) rfl;have o3:=hO.cell (i:=3) (v:=.int .i64 T.now) rfl;have hl1:=h.l1;have hl2:=h.l2;rw [cnt_all];obtain ⟨N,an,cn,G,ag,cg,last,now⟩:=T;dsimp only at hl1 hl2 o0 o1 o2 o3 ⊢;have hkd:=fun w' (g:Gr W w') => rkids_any ⟨N,an,cn,G,ag,cg,last,now⟩ id w' (hTW.gr g)
 have hWa:w.heap.size < W.heap.size:=hO.lt;replace hkd:=Lib.hid hkd;replace hW:=Lib.hid hW;replace hO:=Lib.hid hO;replace h:=Lib.hid h;replace hTW:=Lib.hid hTW;go_enter Tryz.func53,Tryz.ntmps53;go_upto_region 1 with fail
 rw [← hW.out];go_wp2_with fail;refine (hkd.out _ ((Gr.refl W).alloc _)).mono ?_;rintro e wk ⟨ka,kc,rfl,hK,gk⟩;have gWk:Gr W wk:=((Gr.refl W).alloc _).trans gk;have hst:wk.ownsRow W.heap.size 29 3 (.slice (some ⟨W.heap.size,0,none⟩) 0 0) ([]:List Srv).length (([]:List Srv).flatMap Srv.cells):=owns_gr (owns_empty W _ _ _ rfl _ (Nat.le_refl _)) gk;obtain ⟨K,hKe⟩:∃ K,K = kidN N id N.length:=⟨_,rfl⟩
 rw [← hKe] at hK;rw [World.size_alloc] at hK;have hKl:K.length≤N.length:=by rw [hKe];exact kidN_len N id N.length
 rw [← hKe];have hKc:cntN N id N.length = K.map fun x => x.e.srv:=by rw [hKe];rfl
 replace hKe:=Lib.hid hKe;replace hK:=Lib.hid hK;replace hst:=Lib.hid hst;replace hKc:=Lib.hid hKc;clear o0 o1 o2 o3;go_wp2_with fail;go_loopw [15,5] (fun iv ov wr => ∃ k:Nat,k≤K.length∧iv = .int .i64 k∧Hid (wr.ownsRow W.heap.size 29 3 ov ((K.take k).map fun x => x.e.srv).length (((K.take k).map fun x => x.e.srv).flatMap Srv.cells))∧(∀ y,ov.ownBlock = some y→y = W.heap.size ∨ wk.heap.size≤y)∧GrX [W.heap.size] wk wr) (fun iv _ _ => K.length - (intOf iv).toNat);case atStart => exact ⟨0,Nat.zero_le _,rfl,Lib.hid (by rw [List.take_zero];exact hst.out),(fun y hy => .inl (by simp [Value.ownBlock] at hy;omega)),GrX.refl _ _⟩
 case round =>
  obtain ⟨k,hk,rfl,hown,hg⟩:=hrel;obtain ⟨hob,hg⟩:=hg;replace hob:=Lib.hid hob;have hkn:∀ y,y ∈ [W.heap.size]→¬ (W.heap.size + 1≤y):=fun y hy => by rw [List.mem_singleton.1 hy];omega
  replace hkn:=Lib.hid hkn;by_cases hlt:k < K.length
  ·obtain ⟨x,hx⟩:=get_some K k hlt;obtain ⟨b,off,hab,hb,c0,c1,c2,c3,c4,c5,c6⟩:=nd_get (hK.out.grx hg hkn.out) hx;subst hab;have tk:(k:Int) < K.length:=by omega
   have hsu:(K.take (k + 1)).map (fun x => x.e.srv) = (K.take k).map (fun x => x.e.srv) ++ [x.e.srv]:=by rw [take_snoc hx,List.map_append];rfl
   have hln:((K.take k).map fun x => x.e.srv).length≤k:=by rw [List.length_map,List.length_take];omega
   have gz:=gW.size;have gz2:=hg.size;have gz3:=gWk.size;replace hx:=Lib.hid hx;obtain ⟨wz,hwz⟩:∃ wz,wz = (wr.alloc (NdM.obj x)).alloc (.cells #[.int .i64 x.e.srv.k,.int .i64 x.e.srv.q,.int .i64 x.e.srv.t] 29):=⟨_,rfl⟩
   have gzz:Gr wr wz:=by rw [hwz];exact ((Gr.refl wr).alloc _).alloc _
   have hO2:=owns_gr hown.out gzz;have hrec:RecsAt 3 Srv.cells wz (some ⟨wr.heap.size + 1,0,none⟩) [x.e.srv]:=by
    rw [hwz];have:=recs_alloc Srv.cells_len (wr.alloc (NdM.obj x)) [x.e.srv] 29 #[.int .i64 x.e.srv.k,.int .i64 x.e.srv.q,.int .i64 x.e.srv.t] (by simp);rw [World.size_alloc] at this;exact this
   have hbz:W.heap.size≤wz.heap.size:=by have:=gzz.size;omega
   have hbl:=owns_lt hown.out;replace hbl:=Lib.hid hbl;replace hsu:=Lib.hid hsu;replace hwz:=Lib.hid hwz;replace hO2:=Lib.hid hO2;replace hrec:=Lib.hid hrec;go_wp2_with (at_builtin;go_loud (rw [← hwz.out];refine wpList_append_one (k:=3) (enc:=Srv.cells) rfl _ _ 122 rfl W.heap.size 29 i24 _ 24 Tryz.underlying122 hi hz0 hz1 hz2 rfl (by decide) Srv.cells_len Srv.cells_one _ (List.map (fun x:NdM => x.e.srv) (K.take k)) rfl hO2.out (wr.heap.size + 1) 1 x.e.srv rfl hrec.out (by unfold maxLen;omega) (by omega) hbz ?_;intro v7 w7 hown7 hgr7 hat7;rw [← hsu.out] at hown7;have g7:GrX [W.heap.size] wk w7:=(hg.gr gzz).grown13 hgr7 (fun y hy => by rcases hob.out y hy with h1 | h1 <;> simp [h1]);have hob7:∀ y,v7.ownBlock = some y→y = W.heap.size ∨ wk.heap.size≤y:=(fun y hy => by rcases hat7 with h1 | h1;exact hob.out y (h1.symm.trans hy);have hy:=h1.symm.trans hy;have h2:=hg.size;have h3:=gzz.size;right;injection hy with hy;omega);replace hown7:=Lib.hid hown7;clear hat7));go_roundw;case rel => exact ⟨k + 1,by omega,by go_num,hown7,hob7,g7⟩
   case measure => simp [intOf];omega
  ·have hkN:k = K.length:=by omega
   have tk:¬ (k:Int) < K.length:=by omega
   have tkb:decide ((k:Int) < K.length) = false:=decide_eq_false tk;have hgW:Gr W wr:=hg.all gWk (fun y hy => by rw [List.mem_singleton.1 hy];omega);have hO2:=hO.out.gr hgW;replace hg:=hgW;have o1:=hO2.cell (i:=1) (v:=.slice ag G.length cg) rfl;replace hO2:=Lib.hid hO2;rw [hkN,List.take_length,← hKc.out] at hown;replace hkN:=Lib.hid hkN;go_wp2_with fail;clear o1;have hlN:=cntN_len N id N.length;obtain ⟨A,hA⟩:∃ A,A = cntN N id N.length:=⟨_,rfl⟩
   rw [← hA] at hown hlN;replace hA:=Lib.hid hA;have gz:=gW.size;obtain ⟨wo,rfl⟩:∃ wo:World,wo = wr:=⟨_,rfl⟩
   go_loopw [28,5] (fun iv ov wr => ∃ j:Nat,j≤G.length∧iv = .int .i64 j∧Hid (wr.ownsRow W.heap.size 29 3 ov (A ++ cntG G id j).length ((A ++ cntG G id j).flatMap Srv.cells))∧Gr W wr) (fun iv _ _ => G.length - (intOf iv).toNat);case atStart => exact ⟨0,Nat.zero_le _,rfl,Lib.hid (by rw [show A ++ cntG G id 0 = A from by unfold cntG;simp];exact hown.out),hg⟩
   case round =>
    obtain ⟨j,hj,rfl,hown,hg⟩:=hrel;have gz2:=hg.size;by_cases hlt:j < G.length
    ·obtain ⟨x,hx⟩:=get_some G j hlt;obtain ⟨b,off,hab,hb,-,c0,c1,c2,c3,c4⟩:=gh_get ((hTW.out.gr hg).g) hx;dsimp only at hab;subst hab;have tk:(j:Int) < G.length:=by omega
     have hsu:=cntG_succ (id:=id) hx;have hln:=cntG_len G id j;have hAl:(A ++ cntG G id j).length≤2000000:=by rw [List.length_append];omega
     replace hx:=Lib.hid hx;by_cases hp:x.par = id
     ·rw [if_pos hp] at hsu;have tp:(x.par == id) = true:=by simpa using hp
      obtain ⟨wz,hwz⟩:∃ wz,wz = (wr.alloc (.cells #[.int .i64 x.par,.int .i64 x.srv.k,.int .i64 x.srv.q,.int .i64 x.srv.t,.int .i64 x.till] 43)).alloc (.cells #[.int .i64 x.srv.k,.int .i64 x.srv.q,.int .i64 x.srv.t] 29):=⟨_,rfl⟩
      have gzz:Gr wr wz:=by rw [hwz];exact ((Gr.refl wr).alloc _).alloc _
      have hO2:=owns_gr hown.out gzz;have hrec:RecsAt 3 Srv.cells wz (some ⟨wr.heap.size + 1,0,none⟩) [x.srv]:=by
       rw [hwz];have:=recs_alloc Srv.cells_len (wr.alloc (.cells #[.int .i64 x.par,.int .i64 x.srv.k,.int .i64 x.srv.q,.int .i64 x.srv.t,.int .i64 x.till] 43)) [x.srv] 29 #[.int .i64 x.srv.k,.int .i64 x.srv.q,.int .i64 x.srv.t] (by simp);rw [World.size_alloc] at this;exact this
      have hbz:W.heap.size≤wz.heap.size:=by have:=gzz.size;omega
      have hbl:=owns_lt hown.out;have hsl:A ++ cntG G id (j + 1) = (A ++ cntG G id j) ++ [x.srv]:=by rw [hsu,List.append_assoc]
      replace hbl:=Lib.hid hbl;replace hp:=Lib.hid hp;replace hsu:=Lib.hid hsu;replace hsl:=Lib.hid hsl;replace hwz:=Lib.hid hwz;replace hO2:=Lib.hid hO2;replace hrec:=Lib.hid hrec;go_wp2_with (at_builtin;go_loud (rw [← hwz.out];refine wpList_append_recs (k:=3) (enc:=Srv.cells) rfl _ _ 122 rfl W.heap.size 29 i24 _ 24 Tryz.underlying122 hi hz0 hz1 hz2 rfl (by decide) Srv.cells_len Srv.cells_one _ (A ++ cntG G id j) rfl hO2.out (some ⟨wr.heap.size + 1,0,none⟩) 1 [x.srv] rfl hrec.out (fun h => by cases h) (by simp only [List.length_cons,List.length_nil];unfold maxLen;omega) (by simp only [List.length_cons,List.length_nil];omega) hbz ?_;intro v7 w7 hown7 hgr7;rw [← hsl.out] at hown7;have g7:Gr W w7:=(hg.trans gzz).grown hgr7 (fun y hy => (hbl.out y hy).2);replace hown7:=Lib.hid hown7));go_roundw;case rel => exact ⟨j + 1,by omega,by go_num,hown7,g7⟩
      case measure => simp [intOf];omega
     ·rw [if_neg hp,List.append_nil] at hsu;have tp:(x.par == id) = false:=by simpa using hp
      replace hp:=Lib.hid hp;replace hsu:=Lib.hid hsu;go_wp2_with fail;go_roundw;case rel => exact ⟨j + 1,by omega,by go_num,Lib.hid (owns_gr (by rw [hsu.out];exact hown.out) ((Gr.refl _).alloc _)),hg.alloc _⟩
      case measure => simp [intOf];omega
    ·have hjG:j = G.length:=by omega
     have tj:¬ (j:Int) < G.length:=by omega
     have tjb:decide ((j:Int) < G.length) = false:=decide_eq_false tj;rw [hjG,hA.out] at hown;obtain ⟨a',c',hv,-,-,-⟩:=recs_of_owns Srv.cells_len hown.out;subst hv;replace hjG:=Lib.hid hjG;go_wp2_with fail;go_ret;exact ⟨a',c',by rw [List.length_append];rfl,owns_base hown.out gz,gW.trans hg⟩
end Go.Proofs.YtdfelohjdkcpkaaGreatDoor
namespace Go.Proofs.YtdfelohjdkcpkaaGreatDoor
open Go.RowKit
def TreeV.rdepF (t:TreeV):Nat→Int→Int
 | 0,_ => -1
 | n + 1,id => if id = 0 then 0 else match t.find id with
  | none => -1
  | some x => 1 + t.rdepF n x.par
theorem rdep_bd (t:TreeV):∀ (n:Nat) (id:Int),-1≤t.rdepF n id∧t.rdepF n id≤n:=by
 intro n;induction n with
 | zero => intro id;exact ⟨Int.le_refl _,by show (-1:Int)≤_;omega⟩
 | succ n ih =>
  intro id;unfold TreeV.rdepF;split
  ·omega
  ·split
   ·omega
   ·rename_i x _;have:=ih x.par;omega
theorem rdep_law {t:TreeV} (hl:∀ x ∈ t.nodes,0≤x.par∧x.par < x.id) (hu:∀ x ∈ t.nodes,x.par = 0 ∨ ∃ y ∈ t.nodes,y.id = x.par) :
 ∀ (n:Nat) (id d:Int),id.toNat < n→(id = 0 ∨ ∃ y ∈ t.nodes,y.id = id)→t.depthF n id d = d + t.rdepF n id:=by
 intro n;induction n with
 | zero => intro id d h;exact absurd h (Nat.not_lt_zero _)
 | succ n ih =>
  intro id d h hx;unfold TreeV.depthF TreeV.rdepF;by_cases h0:id = 0
  ·rw [if_pos h0,if_pos h0];omega
  ·rw [if_neg h0,if_neg h0];cases hf:t.find id with
   | none =>
    exfalso;rcases hx with hx | ⟨y,hy,hyi⟩
    ·exact h0 hx
    ·unfold TreeV.find at hf;rw [List.find?_eq_none] at hf;exact hf y hy (by simpa using hyi)
   | some x =>
    obtain ⟨hm,hxi⟩:=find_mem hf;have h1:=hl x hm;dsimp only;have hpn:x.par.toNat < n:=by clear hx;omega
    rw [ih x.par (d + 1) hpn (hu x hm)];clear hx;omega
theorem rdep_depth {t:TreeV} (hl:∀ x ∈ t.nodes,0≤x.par∧x.par < x.id) (hu:∀ x ∈ t.nodes,x.par = 0 ∨ ∃ y ∈ t.nodes,y.id = x.par) (id:Int):t.rdepF (id.toNat + 1) id = t.depth id:=by
 unfold TreeV.depth;by_cases hx:id = 0 ∨ ∃ y ∈ t.nodes,y.id = id
 ·rw [rdep_law hl hu (id.toNat + 1) id 0 (show id.toNat < id.toNat + 1 from Nat.lt_succ_self _) hx,Int.zero_add]
 ·have h0:id ≠ 0:=fun h => hx (.inl h)
  have hf:t.find id = none:=by
   unfold TreeV.find;rw [List.find?_eq_none];intro y hy;have:y.id ≠ id:=fun h => hx (.inr ⟨y,hy,h⟩)
   simpa using this
  rw [depth_none h0 hf];unfold TreeV.rdepF;rw [if_neg h0,hf]
theorem rdep_root (t:TreeV) (n:Nat):t.rdepF (n + 1) 0 = 0:=by unfold TreeV.rdepF;rw [if_pos rfl]
theorem rdep_none {t:TreeV} {id:Int} (h0:id ≠ 0) (hf:t.find id = none) (n:Nat):t.rdepF (n + 1) id = -1:=by unfold TreeV.rdepF;rw [if_neg h0,hf]
theorem rdep_some {t:TreeV} {id:Int} {x:Nd} (h0:id ≠ 0) (hf:t.find id = some x) (n:Nat):t.rdepF (n + 1) id = 1 + t.rdepF n x.par:=by
 show (if id = 0 then 0 else match t.find id with | none => -1 | some x => 1 + t.rdepF n x.par) = _;rw [if_neg h0,hf]
theorem find_none {T:TM} {id:Int} (hf:∀ x ∈ T.N,x.e.id ≠ id):T.v.find id = none:=by
 unfold TreeV.find;show List.find? _ (T.N.map (·.e)) = _;rw [List.find?_eq_none];intro y hy;obtain ⟨z,hz,rfl⟩:=List.mem_map.1 hy;simpa using hf z hz
set_option maxRecDepth 100000 in
set_option maxHeartbeats 3200000 in
theorem rdepth_n (T:TM) (hl:Low T.N):∀ (n:Nat) (id:Int) (w:World),n≤1000001→id.toNat < n→0≤id→TreeAt Any w T →
 Calls Tryz.prog 54 #[.agg T.row,.int .i64 id] w fun e w' => e = .returned (.int .i64 (T.v.rdepF n id))∧Gr w w':=by
 intro n;induction n with
 | zero => intro id w _ h;omega
 | succ n ih =>
  intro id w hn h i0 hT;have hbd:=rdep_bd T.v n;replace ih:=Lib.hid ih;replace hbd:=Lib.hid hbd;obtain ⟨W,hW⟩:∃ W,W = w.alloc (.cells #[.slice T.an T.N.length T.cn,.slice T.ag T.G.length T.cg,.int .i64 T.last,.int .i64 T.now] 27):=⟨_,rfl⟩
  have gW:Gr w W:=by rw [hW];exact (Gr.refl w).alloc _
  have hO:Blk W (w.heap.size) #[.slice T.an T.N.length T.cn,.slice T.ag T.G.length T.cg,.int .i64 T.last,.int .i64 T.now] 27:=by
   rw [hW];have:=Blk.new (w) #[.slice T.an T.N.length T.cn,.slice T.ag T.G.length T.cg,.int .i64 T.last,.int .i64 T.now] 27;exact this
  have hWz:W.heap.size = w.heap.size + 1:=by rw [hW];simp
  have o0:=hO.cell (i:=0) (v:=.slice T.an T.N.length T.cn) rfl;have o1:=hO.cell (i:=1) (v:=.slice T.ag T.G.length T.cg) rfl;have o2:=hO.cell (i:=2) (v:=.int .i64 T.last) rfl;have o3:=hO.cell (i:=3) (v:=.int .i64 T.now) rfl;replace hW:=Lib.hid hW;replace hO:=Lib.hid hO;by_cases h0:id = 0
  ·have hv:T.v.rdepF (n + 1) id = 0:=by rw [h0];exact rdep_root _ _
   rw [hv];have tz:(id == 0) = true:=by simpa using h0
   replace h0:=Lib.hid h0;replace hv:=Lib.hid hv;replace hT:=Lib.hid hT;go_enter Tryz.func54,Tryz.ntmps54;go_upto_region 1 with fail
   rw [← hW.out];go_wp2_with fail;go_ret;exact ⟨rfl,gW⟩
  ·have tz:(id == 0) = false:=by simpa using h0
   have hTW:=hT.gr gW;rcases fst_cases T.N id with ⟨i,x,hf⟩ | hf
   ·have hv:=rdep_some h0 (fst_find hf) n;rw [hv];have hx:=hl x (get_mem hf.1);have hxi:=hf.2.1;have hbx:=hbd.out x.e.par;obtain ⟨hb1,hb2⟩:=hbx;have hww:IntKind.i64.wrap (1 + T.v.rdepF n x.e.par) = 1 + T.v.rdepF n x.e.par:=by rw [IntKind.wrap_i64] <;> omega
    have hfd:=rfind_yes T id W hTW hf;have hrc:=fun w' (g:Gr W w') => ih.out x.e.par w' (by omega) (by omega) (by omega) (hTW.gr g)
    replace hv:=Lib.hid hv;replace hx:=Lib.hid hx;replace hf:=Lib.hid hf;replace hfd:=Lib.hid hfd;replace hrc:=Lib.hid hrc;replace hxi:=Lib.hid hxi;replace h0:=Lib.hid h0;replace hT:=Lib.hid hT;replace hTW:=Lib.hid hTW;generalize T.v.rdepF n x.e.par = D at *;go_enter Tryz.func54,Tryz.ntmps54;go_upto_region 1 with fail
    rw [← hW.out];go_wp2_with fail;refine hfd.out.mono ?_;rintro e w1 ⟨rfl,g1⟩;have hO1:=hO.out.gr g1;have hgz:=g1.size;have hOl:=hO.out.lt;have hzz:w.heap.size < w1.heap.size:=by omega
    clear o0 o1 o2 o3;have p0:=hO1.cell (i:=0) (v:=.slice T.an T.N.length T.cn) rfl;have p1:=hO1.cell (i:=1) (v:=.slice T.ag T.G.length T.cg) rfl;have p2:=hO1.cell (i:=2) (v:=.int .i64 T.last) rfl;have p3:=hO1.cell (i:=3) (v:=.int .i64 T.now) rfl;replace hO1:=Lib.hid hO1;go_wp2_with fail;refine (hrc.out _ (g1.trans ((Gr.refl w1).alloc _))).mono ?_;rintro e w2 ⟨rfl,g2⟩;go_wp2_with fail;go_ret;exact ⟨rfl,gW.trans (g1.trans (((Gr.refl w1).alloc _).trans g2))⟩
   ·have hv:=rdep_none h0 (find_none hf) n;rw [hv];have hfd:=rfind_no T id W hTW hf;replace hv:=Lib.hid hv;replace hfd:=Lib.hid hfd;replace hf:=Lib.hid hf;replace h0:=Lib.hid h0;replace hT:=Lib.hid hT;replace hTW:=Lib.hid hTW;go_enter Tryz.func54,Tryz.ntmps54;go_upto_region 1 with fail
    rw [← hW.out];go_wp2_with fail;refine hfd.out.mono ?_;rintro e w1 ⟨rfl,g1⟩;go_wp2_with fail;go_ret;exact ⟨rfl,(gW.trans g1).alloc _⟩
theorem rdepth_any (T:TM) (id:Int) (w:World) (h:TreeAt Any w T) (hl:Low T.N) (hu:∀ x ∈ T.v.nodes,x.par = 0 ∨ ∃ y ∈ T.v.nodes,y.id = x.par) (i0:0≤id) (i1:id≤1000000) :
 Calls Tryz.prog 54 #[.agg T.row,.int .i64 id] w fun e w' => e = .returned (.int .i64 (T.v.depth id))∧Gr w w':=by
 rw [← rdep_depth (t:=T.v) (fun x hx => by
  obtain ⟨y,hy,rfl⟩:=List.mem_map.1 hx;have:=hl y hy;exact ⟨this.1,this.2.1⟩) hu id]
 exact rdepth_n T hl _ id w (by omega) (Nat.lt_succ_self _) i0 h
end Go.Proofs.YtdfelohjdkcpkaaGreatDoor
