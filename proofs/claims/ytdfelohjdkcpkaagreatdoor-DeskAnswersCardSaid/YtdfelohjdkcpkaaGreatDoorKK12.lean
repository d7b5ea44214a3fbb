/- almonerref13: Server, no, Kids, Counted. Printed by gen_f3.py. -/
import Derived.Test.YtdfelohjdkcpkaaGreatDoorKK11
set_option maxRecDepth 100000
set_option maxHeartbeats 3200000
namespace Go.Proofs.YtdfelohjdkcpkaaGreatDoor
open Go.RowKit
theorem OO (T:TM) (id:Int) (w:World) (h:Av Any w T) (hf:∀ x ∈ T.N,x.e.id ≠ id) :
 Calls Tryz.prog 57 #[.agg T.row,.int .i64 id] w fun e w' => e = .returned (.tuple #[.agg #[.int .i64 0,.int .i64 0,.int .i64 0],.bool (decide (id = 0))])∧Gr w w':=by
 obtain ⟨W,hW⟩:=zE ((w.alloc (.cells #[.slice T.an T.N.length T.cn,.slice T.ag T.G.length T.cg,.int .i64 T.last,.int .i64 T.now] 27)).alloc (.cells #[.int .i64 0,.int .i64 0,.int .i64 0] 29));have gW:Gr w W:=by rw [hW];exact ((Gr.refl w).alloc _).alloc _
 have hO:Ag W (w.heap.size) #[.slice T.an T.N.length T.cn,.slice T.ag T.G.length T.cg,.int .i64 T.last,.int .i64 T.now] 27:=by
  rw [hW];exact (Ag.n0).alloc _
 have hR:Ag W (w.heap.size + 1) #[.int .i64 0,.int .i64 0,.int .i64 0] 29:=by
  rw [hW];exact Ag.n1
 have hWz:W.heap.size = w.heap.size + 2:=by rw [hW];simp
 have hfd:=fun w' (g:Gr w w') => Ha T id w' (h.gr g) hf
 obtain ⟨o0,o1,o2,o3⟩:=hO.c4;refine Fm ?_ hW hO hR h hWz hf hfd;clear hW hO hR h hWz hf hfd;intro hW hO hR h hWz hf hfd;go_enter Tryz.func57,Tryz.ntmps57;go_upto_region 1 with fail
 rw [← hW.out];go_wp2_with fail;refine (hfd.out W gW).mono ?_;rintro e w1 ⟨rfl,g1⟩;have hR1:=hR.out.gr g1;clear o0 o1 o2 o3;have hwz:=hWz.out;have hgz:=g1.size;obtain ⟨w2,hw2⟩:=zE (w1.alloc (.cells #[.int .i64 0,.int .i64 0,.int .i64 0,.int .i64 0,.int .i64 0,.int .i64 0,.slice none 0 0] 39));have g2:Gr w1 w2:=by rw [hw2];exact (Gr.refl _).alloc _
 have hN2:Ag w2 w1.heap.size #[.int .i64 0,.int .i64 0,.int .i64 0,.int .i64 0,.int .i64 0,.int .i64 0,.slice none 0 0] 39:=by rw [hw2];exact Ag.new _ _ _
 have hR2:=hR1.gr g2;replace hw2:=zH hw2;replace hR1:=zH hR1;go_upto_region 2 with fail
 rw [← hw2.out];obtain ⟨n0,n1,n2,n3,n4,n5,n6⟩:=hN2.c7;obtain ⟨r0,r1,r2⟩:=hR2.c3;have fr:=fun i => hR2.free i
 replace hN2:=zH hN2;replace hR2:=zH hR2;by_cases h0:id = 0
 ·have tz:(id == 0) = true:=by simpa using h0
  have hid:decide (id = 0) = true:=decide_eq_true h0;replace h0:=zH h0;replace hid:=zH hid;go_wp2_with fail;obtain ⟨w9,hw9⟩:=zE (((w2.setCell ⟨w.heap.size + 1,0,none⟩ (.int .i64 0)).setCell ⟨w.heap.size + 1,1,none⟩ (.int .i64 0)).setCell ⟨w.heap.size + 1,2,none⟩ (.int .i64 0));rw [← hw9];have gxw9:Aw [w.heap.size + 1] w2 w9:=by
   rw [hw9];exact ((((Aw.refl _ _).set (.inl (by simp)) _).set (.inl (by simp)) _).set (.inl (by simp)) _)
  have hR9:Ag w9 (w.heap.size + 1) #[.int .i64 0,.int .i64 0,.int .i64 0] 29:=by
   rw [hw9];exact (((hR2.out.set 0 (.int .i64 0)).set 1 (.int .i64 0)).set 2 (.int .i64 0))
  obtain ⟨d0,d1,d2⟩:=hR9.c3;refine bodyPost_ret (v:=.tuple #[.agg #[.int .i64 0,.int .i64 0,.int .i64 0],.bool true]) (by simp [results,Tryz.results57,go_sem,d0,d1,d2]) rfl ⟨by rw [hid.out],?_⟩;exact gxw9.all ((gW.trans g1).trans g2) (fun y hy => by simp at hy;omega)
 ·have tz:(id == 0) = false:=by simpa using h0
  have hid:decide (id = 0) = false:=decide_eq_false h0;replace h0:=zH h0;replace hid:=zH hid;go_wp2_with fail;obtain ⟨w9,hw9⟩:=zE (((w2.setCell ⟨w.heap.size + 1,0,none⟩ (.int .i64 0)).setCell ⟨w.heap.size + 1,1,none⟩ (.int .i64 0)).setCell ⟨w.heap.size + 1,2,none⟩ (.int .i64 0));rw [← hw9];have gxw9:Aw [w.heap.size + 1] w2 w9:=by
   rw [hw9];exact ((((Aw.refl _ _).set (.inl (by simp)) _).set (.inl (by simp)) _).set (.inl (by simp)) _)
  have hR9:Ag w9 (w.heap.size + 1) #[.int .i64 0,.int .i64 0,.int .i64 0] 29:=by
   rw [hw9];exact (((hR2.out.set 0 (.int .i64 0)).set 1 (.int .i64 0)).set 2 (.int .i64 0))
  obtain ⟨d0,d1,d2⟩:=hR9.c3;refine bodyPost_ret (v:=.tuple #[.agg #[.int .i64 0,.int .i64 0,.int .i64 0],.bool false]) (by simp [results,Tryz.results57,go_sem,d0,d1,d2]) rfl ⟨by rw [hid.out],?_⟩;exact gxw9.all ((gW.trans g1).trans g2) (fun y hy => by simp at hy;omega)
theorem NJ (T:TM) (id:Int) (w:World) (h:Av Any w T) {i:Nat} {x:Ax} (hf:Fl T.N id i x) :
 Calls Tryz.prog 57 #[.agg T.row,.int .i64 id] w fun e w' => e = .returned (.tuple #[.agg #[.int .i64 x.e.srv.k,.int .i64 x.e.srv.q,.int .i64 x.e.srv.t],.bool true])∧Gr w w':=by
 obtain ⟨W,hW⟩:=zE ((w.alloc (.cells #[.slice T.an T.N.length T.cn,.slice T.ag T.G.length T.cg,.int .i64 T.last,.int .i64 T.now] 27)).alloc (.cells #[.int .i64 0,.int .i64 0,.int .i64 0] 29));have gW:Gr w W:=by rw [hW];exact ((Gr.refl w).alloc _).alloc _
 have hO:Ag W (w.heap.size) #[.slice T.an T.N.length T.cn,.slice T.ag T.G.length T.cg,.int .i64 T.last,.int .i64 T.now] 27:=by
  rw [hW];exact (Ag.n0).alloc _
 have hR:Ag W (w.heap.size + 1) #[.int .i64 0,.int .i64 0,.int .i64 0] 29:=by
  rw [hW];exact Ag.n1
 have hWz:W.heap.size = w.heap.size + 2:=by rw [hW];simp
 have hfd:=fun w' (g:Gr w w') => FU T id w' (h.gr g) hf
 obtain ⟨o0,o1,o2,o3⟩:=hO.c4;refine Fm ?_ hW hO hR h hWz hf hfd;clear hW hO hR h hWz hf hfd;intro hW hO hR h hWz hf hfd;go_enter Tryz.func57,Tryz.ntmps57;go_upto_region 1 with fail
 rw [← hW.out];go_wp2_with fail;refine (hfd.out W gW).mono ?_;rintro e w1 ⟨rfl,g1⟩;have hR1:=hR.out.gr g1;clear o0 o1 o2 o3;have hwz:=hWz.out;have hgz:=g1.size;obtain ⟨w2,hw2⟩:=zE (w1.alloc (.cells #[.int .i64 x.e.id,.int .i64 x.e.par,.int .i64 x.e.srv.k,.int .i64 x.e.srv.q,.int .i64 x.e.srv.t,.int .i64 x.e.pol,.slice x.a x.e.tasks.length x.c] 39));have g2:Gr w1 w2:=by rw [hw2];exact (Gr.refl _).alloc _
 have hN2:Ag w2 w1.heap.size #[.int .i64 x.e.id,.int .i64 x.e.par,.int .i64 x.e.srv.k,.int .i64 x.e.srv.q,.int .i64 x.e.srv.t,.int .i64 x.e.pol,.slice x.a x.e.tasks.length x.c] 39:=by rw [hw2];exact Ag.new _ _ _
 have hR2:=hR1.gr g2;replace hw2:=zH hw2;replace hR1:=zH hR1;go_upto_region 2 with fail
 rw [← hw2.out];obtain ⟨n0,n1,n2,n3,n4,n5,n6⟩:=hN2.c7;obtain ⟨r0,r1,r2⟩:=hR2.c3;have fr:=fun i => hR2.free i
 replace hN2:=zH hN2;replace hR2:=zH hR2;go_wp2_with fail;obtain ⟨w9,hw9⟩:=zE (((w2.setCell ⟨w.heap.size + 1,0,none⟩ (.int .i64 x.e.srv.k)).setCell ⟨w.heap.size + 1,1,none⟩ (.int .i64 x.e.srv.q)).setCell ⟨w.heap.size + 1,2,none⟩ (.int .i64 x.e.srv.t));rw [← hw9];have gxw9:Aw [w.heap.size + 1] w2 w9:=by
  rw [hw9];exact ((((Aw.refl _ _).set (.inl (by simp)) _).set (.inl (by simp)) _).set (.inl (by simp)) _)
 have hR9:Ag w9 (w.heap.size + 1) #[.int .i64 x.e.srv.k,.int .i64 x.e.srv.q,.int .i64 x.e.srv.t] 29:=by
  rw [hw9];exact (((hR2.out.set 0 (.int .i64 x.e.srv.k)).set 1 (.int .i64 x.e.srv.q)).set 2 (.int .i64 x.e.srv.t))
 obtain ⟨d0,d1,d2⟩:=hR9.c3;refine bodyPost_ret (v:=.tuple #[.agg #[.int .i64 x.e.srv.k,.int .i64 x.e.srv.q,.int .i64 x.e.srv.t],.bool true]) (by simp [results,Tryz.results57,go_sem,d0,d1,d2]) rfl ⟨rfl,?_⟩;exact gxw9.all ((gW.trans g1).trans g2) (fun y hy => by simp at hy;omega)
theorem G6 (T:TM) (id:Int) (w:World) (h:Av Any w T) (hp:∀ x ∈ T.N,1≤x.e.id) :
 Calls Tryz.prog 57 #[.agg T.row,.int .i64 id] w (SrvP (T.v.server id) w):=by
 have hno:(∀ x ∈ T.N,x.e.id ≠ id)→T.v.find id = none:=fun hf => by
  unfold Ab.find;show List.find? _ (T.N.map (·.e)) = _;rw [List.find?_eq_none];intro y hy;obtain ⟨z,hz,rfl⟩:=List.mem_map.1 hy;simpa using hf z hz
 rcases F2 T.N id with ⟨i,x,hf⟩ | hf
 ·refine (NJ T id w h hf).mono ?_;rintro e w' ⟨rfl,g⟩;have h1:=hp x (AL hf.1);have h2:=hf.2.1;have hs:T.v.server id = some x.e.srv:=by
   unfold Ab.server;rw [if_neg (by omega),Dg hf];rfl
  exact ⟨x.e.srv,by rw [hs];rfl,by rw [hs];rfl,g⟩
 ·refine (OO T id w h hf).mono ?_;rintro e w' ⟨rfl,g⟩;by_cases h0:id = 0
  ·have hs:T.v.server id = some AU:=by unfold Ab.server;rw [if_pos h0]
   exact ⟨AU,by rw [hs];rfl,by rw [hs,decide_eq_true h0];rfl,g⟩
  ·have hs:T.v.server id = none:=by unfold Ab.server;rw [if_neg h0,hno hf];rfl
   exact ⟨AU,by rw [hs];rfl,by rw [hs,decide_eq_false h0];rfl,g⟩
theorem Bf (T:TM) (c:Int) (w:World) :
 Calls Tryz.prog 49 #[.agg T.row,.int .i64 c] w fun e w' => e = .returned (.tuple #[.agg T.row,.agg #[.int .i64 c,.int .i64 0]])∧Gr w w':=by
 obtain ⟨W,hW⟩:=zE (((w.alloc (.cells #[.slice T.an T.N.length T.cn,.slice T.ag T.G.length T.cg,.int .i64 T.last,.int .i64 T.now] 27)).alloc (.cells #[.slice none 0 0,.slice none 0 0,.int .i64 0,.int .i64 0] 27)).alloc (.cells #[.int .i64 0,.int .i64 0] 34));have gW:Gr w W:=by rw [hW];exact (((Gr.refl w).alloc _).alloc _).alloc _
 have hO:Ag W (w.heap.size) #[.slice T.an T.N.length T.cn,.slice T.ag T.G.length T.cg,.int .i64 T.last,.int .i64 T.now] 27:=by
  rw [hW];exact ((Ag.n0).alloc _).alloc _
 have hP:Ag W (w.heap.size + 1) #[.slice none 0 0,.slice none 0 0,.int .i64 0,.int .i64 0] 27:=by
  rw [hW];exact (Ag.n1).alloc _
 have hR:Ag W (w.heap.size + 1 + 1) #[.int .i64 0,.int .i64 0] 34:=by
  rw [hW];exact Ag.n2
 have hWz:W.heap.size = w.heap.size + 3:=by rw [hW];simp
 obtain ⟨o0,o1,o2,o3⟩:=hO.c4;obtain ⟨p0,p1,p2,p3⟩:=hP.c4;obtain ⟨r0,r1⟩:=hR.c2;have fp:=fun i => hP.free i
 have fr:=fun i => hR.free i
 refine AZ ?_ hW hWz hO;clear hW hWz hO;intro hW hWz hO;have hP2:=Lib.hid hP;have hR2:=Lib.hid hR;clear hP hR;go_enter Tryz.func49,Tryz.ntmps49;go_upto_region 1 with fail
 rw [← hW.out];go_wp2_with fail;obtain ⟨w9,hw9⟩:=zE ((((((W.setCell ⟨w.heap.size + 1,0,none⟩ (.slice T.an T.N.length T.cn)).setCell ⟨w.heap.size + 1,1,none⟩ (.slice T.ag T.G.length T.cg)).setCell ⟨w.heap.size + 1,2,none⟩ (.int .i64 T.last)).setCell ⟨w.heap.size + 1,3,none⟩ (.int .i64 T.now)).setCell ⟨w.heap.size + 1 + 1,0,none⟩ (.int .i64 c)).setCell ⟨w.heap.size + 1 + 1,1,none⟩ (.int .i64 0));rw [← hw9];have gxw9:Aw [w.heap.size + 1,w.heap.size + 1 + 1] W w9:=by
  rw [hw9];exact (((((((Aw.refl _ _).set (.inl (by simp)) _).set (.inl (by simp)) _).set (.inl (by simp)) _).set (.inl (by simp)) _).set (.inl (by simp)) _).set (.inl (by simp)) _)
 have hP9:Ag w9 (w.heap.size + 1) #[.slice T.an T.N.length T.cn,.slice T.ag T.G.length T.cg,.int .i64 T.last,.int .i64 T.now] 27:=by
  rw [hw9];exact ((((((hP2.out.set 0 (.slice T.an T.N.length T.cn)).set 1 (.slice T.ag T.G.length T.cg)).set 2 (.int .i64 T.last)).set 3 (.int .i64 T.now)).other (a:=⟨w.heap.size + 1 + 1,0,none⟩) (by show w.heap.size + 1 ≠ w.heap.size + 1 + 1;omega) (.int .i64 c)).other (a:=⟨w.heap.size + 1 + 1,1,none⟩) (by show w.heap.size + 1 ≠ w.heap.size + 1 + 1;omega) (.int .i64 0))
 have hR9:Ag w9 (w.heap.size + 1 + 1) #[.int .i64 c,.int .i64 0] 34:=by
  rw [hw9];exact ((((((hR2.out.other (a:=⟨w.heap.size + 1,0,none⟩) (by show w.heap.size + 1 + 1 ≠ w.heap.size + 1;omega) (.slice T.an T.N.length T.cn)).other (a:=⟨w.heap.size + 1,1,none⟩) (by show w.heap.size + 1 + 1 ≠ w.heap.size + 1;omega) (.slice T.ag T.G.length T.cg)).other (a:=⟨w.heap.size + 1,2,none⟩) (by show w.heap.size + 1 + 1 ≠ w.heap.size + 1;omega) (.int .i64 T.last)).other (a:=⟨w.heap.size + 1,3,none⟩) (by show w.heap.size + 1 + 1 ≠ w.heap.size + 1;omega) (.int .i64 T.now)).set 0 (.int .i64 c)).set 1 (.int .i64 0))
 obtain ⟨d0,d1,d2,d3⟩:=hP9.c4;obtain ⟨e0,e1⟩:=hR9.c2;refine bodyPost_ret (v:=.tuple #[.agg T.row,.agg #[.int .i64 c,.int .i64 0]]) (by simp [results,Tryz.results49,go_sem,d0,d1,d2,d3,e0,e1]) rfl ⟨rfl,?_⟩;exact gxw9.all gW (fun y hy => by simp at hy;omega)
def GD (N:List Ax) (id:Int) (k:Nat):List Ax:=(N.take k).filter fun x => decide (x.e.par = id)
theorem MV {N:List Ax} {id:Int} {k:Nat} {x:Ax} (hx:N[k]? = some x):GD N id (k + 1) = GD N id k ++ if x.e.par = id then [x] else []:=by
 unfold GD;rw [Ae hx,List.filter_append];congr 1;by_cases h:x.e.par = id <;> simp [h]
theorem Kj (N:List Ax) (id:Int) (k:Nat):(GD N id k).length≤k:=by
 unfold GD;have:=List.length_filter_le (fun x:Ax => decide (x.e.par = id)) (N.take k);simp at this ⊢;omega
def KidP (L:List Ax) (w:World) (e:Ending) (w':World):Prop:=∃ a c,e = .returned (.slice a L.length c)∧AC (fun b => w.heap.size≤b) 7 Ax.cells w' a L∧Gr w w'
theorem Aw.grown13 {S:List Nat} {w a w':World} {row:Option Nat} (h:Aw S w a) (hg:a.grownBy w' row) (hr:∀ k,row = some k→k ∈ S ∨ w.heap.size≤k):Aw S w w':=by
 obtain ⟨g1,g2,g3,g4,g5⟩:=hg;refine ⟨g1.trans h.os,g2.trans h.tape,g3.trans h.output,Nat.le_trans h.size g4,fun k hk hn => ?_⟩;rw [g5 k (Nat.lt_of_lt_of_le hk h.size) (fun e => by rcases hr k e.symm with h1 | h1;exact hn h1;omega)];exact h.block k hk hn
theorem Po {K:Nat→Prop} {w:World} {a:Option Addr} {L:List Ax} (h:AC K 7 Ax.cells w a L) {i:Nat} {x:Ax} (hx:L[i]? = some x) :
 ∃ b off,a = some ⟨b,off,none⟩∧b < w.heap.size∧w.cell? ⟨b,off + i * 7,none⟩ = some (.int .i64 x.e.id)∧w.cell? ⟨b,off + i * 7 + 1,none⟩ = some (.int .i64 x.e.par)∧w.cell? ⟨b,off + i * 7 + 2,none⟩ = some (.int .i64 x.e.srv.k)∧w.cell? ⟨b,off + i * 7 + 3,none⟩ = some (.int .i64 x.e.srv.q)∧w.cell? ⟨b,off + i * 7 + 4,none⟩ = some (.int .i64 x.e.srv.t)∧w.cell? ⟨b,off + i * 7 + 5,none⟩ = some (.int .i64 x.e.pol)∧w.cell? ⟨b,off + i * 7 + 6,none⟩ = some (.slice x.a x.e.tasks.length x.c):=by
 obtain ⟨b,off,ha,hb,hc⟩:=h.1 i x hx;exact ⟨b,off,ha,hb,hc 0 _ rfl,hc 1 _ rfl,hc 2 _ rfl,hc 3 _ rfl,hc 4 _ rfl,hc 5 _ rfl,hc 6 _ rfl⟩
theorem Mt (T:TM) (id:Int) (w:World) (h:Av Any w T) :
 Calls Tryz.prog 99 #[.agg T.row,.int .i64 id] w (KidP (GD T.N id T.N.length) w):=by
 obtain ⟨i24,hi,hz0,hz1,hz2⟩:=info_parts Tryz.infoNd;obtain ⟨W,hW⟩:=zE (w.alloc (.cells T.row 27));have gW:Gr w W:=by rw [hW];exact (Gr.refl w).alloc _
 have hO:Ag W w.heap.size T.row 27:=by rw [hW];exact Ag.new w _ _
 have hTW:=h.gr gW;have o0:=hO.cell (i:=0) (v:=.slice T.an T.N.length T.cn) rfl;have hl1:=h.l1;have hl2:=h.l2;obtain ⟨N,an,cn,G,ag,cg,last,now⟩:=T;dsimp only at hl1 hl2 o0 ⊢;have hWa:w.heap.size < W.heap.size:=hO.lt;refine B0 ?_ hW hO h hTW;clear hW hO h hTW;intro hW hO h hTW;go_enter Tryz.func99,Tryz.ntmps99;go_upto_region 1 with fail
 rw [← hW.out];go_wp2_with fail;clear o0;go_loopw [12,5] (fun iv ov wr => ∃ k:Nat,k≤N.length∧iv = .int .i64 k∧Hid (wr.ownsRow W.heap.size 39 7 ov (GD N id k).length ((GD N id k).flatMap Ax.cells))∧Gr W wr) (fun iv _ _ => N.length - (intOf iv).toNat);case atStart => exact ⟨0,Nat.zero_le _,rfl,Lib.hid (Bw _ _ _ _ rfl _ (Nat.le_refl _)),(Gr.refl _).alloc _⟩
 case round =>
  obtain ⟨k,hk,rfl,hown,hg⟩:=hrel;by_cases hlt:k < N.length
  ·obtain ⟨x,hx⟩:=Ac N k hlt;obtain ⟨b,off,hab,hb,-,c0,c1,c2,c3,c4,c5,c6⟩:=(hTW.out.gr hg).n.get hx;dsimp only at hab;subst hab;have tk:(k:Int) < N.length:=by omega
   have hsu:=MV (id:=id) hx;have hln:=Kj N id k;have gz:=gW.size;have gz2:=hg.size;replace hx:=zH hx;by_cases hp:x.e.par = id
   ·rw [if_pos hp] at hsu;have tp:(x.e.par == id) = true:=by simpa using hp
    obtain ⟨wz,hwz⟩:=zE ((wr.alloc (Ax.obj x)).alloc (Ax.obj x));have gzz:Gr wr wz:=by rw [hwz];exact ((Gr.refl wr).alloc _).alloc _
    have hO2:=As hown.out gzz;have hrec:Al 7 Ax.cells wz (some ⟨wr.heap.size + 1,0,none⟩) [x]:=by
     rw [hwz];have:=An Ax.cells_len (wr.alloc (Ax.obj x)) [x] 39 #[.int .i64 x.e.id,.int .i64 x.e.par,.int .i64 x.e.srv.k,.int .i64 x.e.srv.q,.int .i64 x.e.srv.t,.int .i64 x.e.pol,.slice x.a x.e.tasks.length x.c] (by simp);rw [zL] at this;exact this
    have hbz:W.heap.size≤wz.heap.size:=by have:=gzz.size;omega
    have hbl:=Ar hown.out;have hsl:(GD N id (k + 1)).length = (GD N id k).length + 1:=by rw [hsu,List.length_append];rfl
    refine Fm ?_ hbl hp hsu hsl hwz hO2 hrec;clear hbl hp hsu hsl hwz hO2 hrec;intro hbl hp hsu hsl hwz hO2 hrec;go_wp2_with (at_builtin;(rw [← hwz.out];refine Ai (k:=7) (enc:=Ax.cells) rfl _ _ 24 rfl W.heap.size 39 i24 _ 72 Tryz.underlying24 hi hz0 hz1 hz2 rfl (by decide) Ax.cells_len Ax.cells_one _ (GD N id k) rfl hO2.out (some ⟨wr.heap.size + 1,0,none⟩) 1 [x] rfl hrec.out (fun h => by cases h) (by simp;unfold maxLen;omega) (by simp;omega) hbz ?_;intro v7 w7 hown7 hgr7;rw [← hsu.out] at hown7;have g7:Gr W w7:=(hg.trans gzz).grown hgr7 (fun y hy => (hbl.out y hy).2);replace hown7:=zH hown7));go_roundw;case rel => exact ⟨k + 1,by omega,by go_num,hown7,g7⟩
    case measure => simp [intOf];omega
   ·rw [if_neg hp,List.append_nil] at hsu;have tp:(x.e.par == id) = false:=by simpa using hp
    replace hp:=zH hp;replace hsu:=zH hsu;go_wp2_with fail;go_roundw;case rel => exact ⟨k + 1,by omega,by go_num,Lib.hid (As (by rw [hsu.out];exact hown.out) ((Gr.refl _).alloc _)),hg.alloc _⟩
    case measure => simp [intOf];omega
  ·have hkN:k = N.length:=by omega
   have tk:¬ (k:Int) < N.length:=by omega
   have tkb:decide ((k:Int) < N.length) = false:=decide_eq_false tk;rw [hkN] at hown;obtain ⟨a',c',hv,hrc,-,hbb⟩:=Af Ax.cells_len hown.out;have gz:=gW.size;subst hv;replace hkN:=zH hkN;replace hrc:=zH hrc;go_wp2_with fail;go_ret;exact ⟨a',c',rfl,⟨hrc.out,fun x hx _ => by have:=hbb x hx;omega⟩,gW.trans hg⟩
theorem B4 (T:TM) (id:Int) (w:World) (h:Av Any w T) :
 Calls Tryz.prog 53 #[.agg T.row,.int .i64 id] w (CntP (T.v.counted id) w):=by
 obtain ⟨i24,hi,hz0,hz1,hz2⟩:=info_parts Tryz.infoSrv;obtain ⟨W,hW⟩:=zE (w.alloc (.cells T.row 27));have gW:Gr w W:=by rw [hW];exact (Gr.refl w).alloc _
 have hO:Ag W w.heap.size T.row 27:=by rw [hW];exact Ag.new w _ _
 have hTW:=h.gr gW;obtain ⟨o0,o1,o2,o3⟩:=hO.c4;have hl1:=h.l1;have hl2:=h.l2;rw [CP];obtain ⟨N,an,cn,G,ag,cg,last,now⟩:=T;dsimp only at hl1 hl2 o0 o1 o2 o3 ⊢;have hkd:=fun w' (g:Gr W w') => Mt ⟨N,an,cn,G,ag,cg,last,now⟩ id w' (hTW.gr g)
 have hWa:w.heap.size < W.heap.size:=hO.lt;refine DT ?_ hkd hW hO h hTW;clear hkd hW hO h hTW;intro hkd hW hO h hTW;go_enter Tryz.func53,Tryz.ntmps53;go_upto_region 1 with fail
 rw [← hW.out];go_wp2_with fail;refine (hkd.out _ ((Gr.refl W).alloc _)).mono ?_;rintro e wk ⟨ka,kc,rfl,hK,gk⟩;have gWk:Gr W wk:=((Gr.refl W).alloc _).trans gk;have hst:wk.ownsRow W.heap.size 29 3 (.slice (some ⟨W.heap.size,0,none⟩) 0 0) ([]:List Ao).length (([]:List Ao).flatMap Ao.cells):=As (Bw W _ _ _ rfl _ (Nat.le_refl _)) gk;obtain ⟨K,hKe⟩:=zE (GD N id N.length);rw [← hKe] at hK;rw [zL] at hK;have hKl:K.length≤N.length:=by rw [hKe];exact Kj N id N.length
 rw [← hKe];have hKc:Fg N id N.length = K.map fun x => x.e.srv:=by rw [hKe];rfl
 refine B0 ?_ hKe hK hst hKc;clear hKe hK hst hKc;intro hKe hK hst hKc;clear o0 o1 o2 o3;go_wp2_with fail;go_loopw [15,5] (fun iv ov wr => ∃ k:Nat,k≤K.length∧iv = .int .i64 k∧Hid (wr.ownsRow W.heap.size 29 3 ov ((K.take k).map fun x => x.e.srv).length (((K.take k).map fun x => x.e.srv).flatMap Ao.cells))∧(∀ y,ov.ownBlock = some y→y = W.heap.size ∨ wk.heap.size≤y)∧Aw [W.heap.size] wk wr) (fun iv _ _ => K.length - (intOf iv).toNat);case atStart => exact ⟨0,Nat.zero_le _,rfl,Lib.hid (by rw [List.take_zero];exact hst.out),(fun y hy => .inl (by simp [Value.ownBlock] at hy;omega)),Aw.refl _ _⟩
 case round =>
  obtain ⟨k,hk,rfl,hown,hg⟩:=hrel;obtain ⟨hob,hg⟩:=hg;replace hob:=zH hob;have hkn:∀ y,y ∈ [W.heap.size]→¬ (W.heap.size + 1≤y):=fun y hy => by rw [List.mem_singleton.1 hy];omega
  replace hkn:=zH hkn;by_cases hlt:k < K.length
  ·obtain ⟨x,hx⟩:=Ac K k hlt;obtain ⟨b,off,hab,hb,c0,c1,c2,c3,c4,c5,c6⟩:=Po (hK.out.grx hg hkn.out) hx;subst hab;have tk:(k:Int) < K.length:=by omega
   have hsu:(K.take (k + 1)).map (fun x => x.e.srv) = (K.take k).map (fun x => x.e.srv) ++ [x.e.srv]:=by rw [Ae hx,List.map_append];rfl
   have hln:((K.take k).map fun x => x.e.srv).length≤k:=by rw [List.length_map,List.length_take];omega
   have gz:=gW.size;have gz2:=hg.size;have gz3:=gWk.size;replace hx:=zH hx;obtain ⟨wz,hwz⟩:=zE ((wr.alloc (Ax.obj x)).alloc (.cells #[.int .i64 x.e.srv.k,.int .i64 x.e.srv.q,.int .i64 x.e.srv.t] 29));have gzz:Gr wr wz:=by rw [hwz];exact ((Gr.refl wr).alloc _).alloc _
   have hO2:=As hown.out gzz;have hrec:Al 3 Ao.cells wz (some ⟨wr.heap.size + 1,0,none⟩) [x.e.srv]:=by
    rw [hwz];have:=An Ao.cells_len (wr.alloc (Ax.obj x)) [x.e.srv] 29 #[.int .i64 x.e.srv.k,.int .i64 x.e.srv.q,.int .i64 x.e.srv.t] (by simp);rw [zL] at this;exact this
   have hbz:W.heap.size≤wz.heap.size:=by have:=gzz.size;omega
   have hbl:=Ar hown.out;refine DT ?_ hbl hsu hwz hO2 hrec;clear hbl hsu hwz hO2 hrec;intro hbl hsu hwz hO2 hrec;go_wp2_with (at_builtin;go_loud (rw [← hwz.out];refine AP (k:=3) (enc:=Ao.cells) rfl _ _ 122 rfl W.heap.size 29 i24 _ 24 Tryz.underlying122 hi hz0 hz1 hz2 rfl (by decide) Ao.cells_len Ao.cells_one _ (List.map (fun x:Ax => x.e.srv) (K.take k)) rfl hO2.out (wr.heap.size + 1) 1 x.e.srv rfl hrec.out (by unfold maxLen;omega) (by omega) hbz ?_;intro v7 w7 hown7 hgr7 hat7;rw [← hsu.out] at hown7;have g7:Aw [W.heap.size] wk w7:=(hg.gr gzz).grown13 hgr7 (fun y hy => by rcases hob.out y hy with h1 | h1 <;> simp [h1]);have hob7:∀ y,v7.ownBlock = some y→y = W.heap.size ∨ wk.heap.size≤y:=(fun y hy => by rcases hat7 with h1 | h1;exact hob.out y (h1.symm.trans hy);have hy:=h1.symm.trans hy;have h2:=hg.size;have h3:=gzz.size;right;injection hy with hy;omega);replace hown7:=zH hown7;clear hat7));go_roundw;case rel => exact ⟨k + 1,by omega,by go_num,hown7,hob7,g7⟩
   case measure => simp [intOf];omega
  ·have hkN:k = K.length:=by omega
   have tk:¬ (k:Int) < K.length:=by omega
   have tkb:decide ((k:Int) < K.length) = false:=decide_eq_false tk;have hgW:Gr W wr:=hg.all gWk (fun y hy => by rw [List.mem_singleton.1 hy];omega);have hO2:=hO.out.gr hgW;replace hg:=hgW;have o1:=hO2.cell (i:=1) (v:=.slice ag G.length cg) rfl;replace hO2:=zH hO2;rw [hkN,List.take_length,← hKc.out] at hown;replace hkN:=zH hkN;go_wp2_with fail;clear o1;have hlN:=Cj N id N.length;obtain ⟨A,hA⟩:=zE (Fg N id N.length);rw [← hA] at hown hlN;replace hA:=zH hA;have gz:=gW.size;obtain ⟨wo,rfl⟩:∃ wo:World,wo = wr:=⟨_,rfl⟩
   go_loopw [28,5] (fun iv ov wr => ∃ j:Nat,j≤G.length∧iv = .int .i64 j∧Hid (wr.ownsRow W.heap.size 29 3 ov (A ++ Dk G id j).length ((A ++ Dk G id j).flatMap Ao.cells))∧Gr W wr) (fun iv _ _ => G.length - (intOf iv).toNat);case atStart => exact ⟨0,Nat.zero_le _,rfl,Lib.hid (by rw [show A ++ Dk G id 0 = A from by unfold Dk;simp];exact hown.out),hg⟩
   case round =>
    obtain ⟨j,hj,rfl,hown,hg⟩:=hrel;have gz2:=hg.size;by_cases hlt:j < G.length
    ·obtain ⟨x,hx⟩:=Ac G j hlt;obtain ⟨b,off,hab,hb,-,c0,c1,c2,c3,c4⟩:=CF ((hTW.out.gr hg).g) hx;dsimp only at hab;subst hab;have tk:(j:Int) < G.length:=by omega
     have hsu:=IM (id:=id) hx;have hln:=Ct G id j;have hAl:(A ++ Dk G id j).length≤2000000:=by rw [List.length_append];omega
     replace hx:=zH hx;by_cases hp:x.par = id
     ·rw [if_pos hp] at hsu;have tp:(x.par == id) = true:=by simpa using hp
      obtain ⟨wz,hwz⟩:=zE ((wr.alloc (.cells #[.int .i64 x.par,.int .i64 x.srv.k,.int .i64 x.srv.q,.int .i64 x.srv.t,.int .i64 x.till] 43)).alloc (.cells #[.int .i64 x.srv.k,.int .i64 x.srv.q,.int .i64 x.srv.t] 29));have gzz:Gr wr wz:=by rw [hwz];exact ((Gr.refl wr).alloc _).alloc _
      have hO2:=As hown.out gzz;have hrec:Al 3 Ao.cells wz (some ⟨wr.heap.size + 1,0,none⟩) [x.srv]:=by
       rw [hwz];have:=An Ao.cells_len (wr.alloc (.cells #[.int .i64 x.par,.int .i64 x.srv.k,.int .i64 x.srv.q,.int .i64 x.srv.t,.int .i64 x.till] 43)) [x.srv] 29 #[.int .i64 x.srv.k,.int .i64 x.srv.q,.int .i64 x.srv.t] (by simp);rw [zL] at this;exact this
      have hbz:W.heap.size≤wz.heap.size:=by have:=gzz.size;omega
      have hbl:=Ar hown.out;have hsl:A ++ Dk G id (j + 1) = (A ++ Dk G id j) ++ [x.srv]:=by rw [hsu,List.append_assoc]
      refine Fm ?_ hbl hp hsu hsl hwz hO2 hrec;clear hbl hp hsu hsl hwz hO2 hrec;intro hbl hp hsu hsl hwz hO2 hrec;go_wp2_with (at_builtin;go_loud (rw [← hwz.out];refine Ai (k:=3) (enc:=Ao.cells) rfl _ _ 122 rfl W.heap.size 29 i24 _ 24 Tryz.underlying122 hi hz0 hz1 hz2 rfl (by decide) Ao.cells_len Ao.cells_one _ (A ++ Dk G id j) rfl hO2.out (some ⟨wr.heap.size + 1,0,none⟩) 1 [x.srv] rfl hrec.out (fun h => by cases h) (by simp only [List.length_cons,List.length_nil];unfold maxLen;omega) (by simp only [List.length_cons,List.length_nil];omega) hbz ?_;intro v7 w7 hown7 hgr7;rw [← hsl.out] at hown7;have g7:Gr W w7:=(hg.trans gzz).grown hgr7 (fun y hy => (hbl.out y hy).2);replace hown7:=zH hown7));go_roundw;case rel => exact ⟨j + 1,by omega,by go_num,hown7,g7⟩
      case measure => simp [intOf];omega
     ·rw [if_neg hp,List.append_nil] at hsu;have tp:(x.par == id) = false:=by simpa using hp
      replace hp:=zH hp;replace hsu:=zH hsu;go_wp2_with fail;go_roundw;case rel => exact ⟨j + 1,by omega,by go_num,Lib.hid (As (by rw [hsu.out];exact hown.out) ((Gr.refl _).alloc _)),hg.alloc _⟩
      case measure => simp [intOf];omega
    ·have hjG:j = G.length:=by omega
     have tj:¬ (j:Int) < G.length:=by omega
     have tjb:decide ((j:Int) < G.length) = false:=decide_eq_false tj;rw [hjG,hA.out] at hown;obtain ⟨a',c',hv,-,-,-⟩:=Af Ao.cells_len hown.out;subst hv;replace hjG:=zH hjG;go_wp2_with fail;go_ret;exact ⟨a',c',by rw [List.length_append];rfl,CN hown.out gz,gW.trans hg⟩
theorem Ii {α:Type} (f:α→Int) {l m:List α} (h:l.Perm m):A0 f l = A0 f m:=by
 induction h with
 | nil => rfl
 | cons x _ ih => rw [BD,BD,ih]
 | swap x y l => rw [BD,BD,BD,BD];omega
 | trans _ _ ih1 ih2 => rw [ih1,ih2]
theorem IK {l m:List Ao} (h:l.Perm m):Bc l = Bc m:=by
 funext i;exact Ii _ h
theorem JF {l m:List Ao} (h:l.Perm m) (n:Nat):AN l n = AN m n:=by
 induction n with
 | zero => rfl
 | succ n ih =>
  unfold AN;rw [ih,IK h]
theorem OB {α:Type} {p:α→Bool} {l m:List α} (h:l.Perm m):l.all p = m.all p:=by
 induction h with
 | nil => rfl
 | cons x _ ih => rw [List.all_cons,List.all_cons,ih]
 | swap x y l => rw [List.all_cons,List.all_cons,List.all_cons,List.all_cons,← Bool.and_assoc,← Bool.and_assoc,Bool.and_comm (p y)]
 | trans _ _ ih1 ih2 => rw [ih1,ih2]
theorem JH {l m:List Ao} (h:l.Perm m):Bm l = Bm m:=by
 unfold Bm AY;rw [OB h,h.length_eq]
theorem F1 {s:Ao} {l m:List Ao} (h:l.Perm m):Am s l = Am s m:=by
 have h1:Bl l = Bl m:=Ii _ h;unfold Am DM;rw [JH h,Gd h,h1,JF h,IK h]
theorem Oa {s:Ao} {l m:List Ao} (h:m.Sublist l) (hk:Am s l = none):Am s m = none:=by
 have key:∀ (l m:List Ao),m.Sublist l→∀ a:List Ao,Am s (a ++ l) = none→Am s (a ++ m) = none:=by
  intro l m h;induction h with
  | slnil => intro a hk;exact hk
  | cons x _ ih => intro a hk;exact ih a (Lk hk)
  | cons_cons x _ ih =>
   intro a hk;have h1:=ih (a ++ [x]) (by simpa using hk);simpa using h1
 exact key l m h [] hk
structure Bq (n:Nat) (t:Ab):Prop where
 l0:0≤t.last
 l1:t.last≤n
 n0:0≤t.now
 n1:t.now≤1099511627776
 st:t.nodes.Pairwise fun x y => x.id < y.id
 lw:∀ x ∈ t.nodes,0≤x.par∧x.par < x.id∧x.id≤t.last
 nl:t.nodes.length≤n
 gl:t.ghosts.length≤n
theorem Bq.zero:Bq 0 ⟨[],[],0,0⟩:=⟨by simp,by simp,by simp,by simp,.nil,by simp,by simp,by simp⟩
theorem Bq.more {n m:Nat} {t:Ab} (h:Bq n t) (hm:n≤m):Bq m t:=⟨h.l0,by have:=h.l1;omega,h.n0,h.n1,h.st,h.lw,by have:=h.nl;omega,by have:=h.gl;omega⟩
theorem Di (t:Ab) (p:Int):∃ f:Gh→Gh,(∀ g,(f g).par = g.par∧(f g).srv = g.srv∧g.till≤(f g).till)∧t.drained p = {t with ghosts:=t.ghosts.map f}∧(Am ((t.server p).getD AU) (t.counted p) = none→∀ g,g.par = p→t.now + Bo ((t.server p).getD AU) (t.counted p)≤(f g).till):=by
 unfold Ab.drained;dsimp only;by_cases hk:Am ((t.server p).getD AU) (t.counted p) = none
 ·rw [if_pos hk];refine ⟨fun g => if g.par = p then {g with till:=max g.till (t.now + Bo ((t.server p).getD AU) (t.counted p))} else g,fun g => ?_,rfl,fun _ g hg => ?_⟩
  ·dsimp only;split
   ·exact ⟨rfl,rfl,by dsimp only;omega⟩
   ·exact ⟨rfl,rfl,Int.le_refl _⟩
  ·dsimp only;rw [if_pos hg];dsimp only;omega
 ·rw [if_neg hk];exact ⟨id,fun g => ⟨rfl,rfl,Int.le_refl _⟩,by simp,fun h => absurd h hk⟩
theorem Ea (t:Ab) (o:A8):(∃ c,c ≠ 0∧t.create o = (t,c,0)) ∨ ∃ s,o.srv.leg = true∧t.server o.id = some s∧((t.find o.id).map (·.pol)).getD 0 = 0∧t.depth o.id < 4∧t.nodes.length < 64∧(t.counted o.id).length < 8∧Am s (t.counted o.id ++ [o.srv]) = none∧t.create o = (({t with last:=t.last + 1,nodes:=t.nodes ++ [(⟨t.last + 1,o.id,o.srv,0,[]⟩:Nd)]}:Ab).drained o.id,0,t.last + 1):=by
 unfold Ab.create;cases h1:o.srv.leg with
 | false => rw [if_pos rfl];exact .inl ⟨7,by decide,rfl⟩
 | true =>
  rw [if_neg (by decide)];cases h2:t.server o.id with
  | none => exact .inl ⟨1,by decide,rfl⟩
  | some s =>
   dsimp only;by_cases h3:((t.find o.id).map (·.pol)).getD 0 ≠ 0
   ·rw [if_pos h3];exact .inl ⟨3,by decide,rfl⟩
   rw [if_neg h3];by_cases h4:4≤t.depth o.id
   ·rw [if_pos h4];exact .inl ⟨6,by decide,rfl⟩
   rw [if_neg h4];by_cases h5:64≤t.nodes.length ∨ 8≤(t.counted o.id).length
   ·rw [if_pos h5];exact .inl ⟨5,by decide,rfl⟩
   rw [if_neg h5];by_cases h6:Am s (t.counted o.id ++ [o.srv]) ≠ none
   ·rw [if_pos h6];exact .inl ⟨4,by decide,rfl⟩
   rw [if_neg h6];exact .inr ⟨s,rfl,rfl,by simpa using h3,by omega,by omega,by omega,by simpa using h6,rfl⟩
theorem Ex (t:Ab) (id:Int):t.loose id ≠ 0 ∨ t.loose id = 0∧∃ x,t.find id = some x∧t.counted id = []:=by
 unfold Ab.loose;cases h1:t.find id with
 | none => exact .inl (by simp)
 | some x =>
  dsimp only;by_cases h2:t.counted id ≠ []
  ·rw [if_pos h2];exact .inl (by decide)
  ·rw [if_neg h2];exact .inr ⟨rfl,x,rfl,by simpa using h2⟩
theorem D3 (t:Ab) (o:A8):(∃ c,c ≠ 0∧t.resize o = (t,c,0)) ∨ ∃ x,o.srv.leg = true∧t.find o.id = some x∧t.counted o.id = []∧x.pol = 0∧(t.counted x.par).length < 8∧Am ((t.server x.par).getD AU) (t.counted x.par ++ [o.srv]) = none∧t.resize o = (({t with nodes:=Bu t.nodes o.id fun n => {n with srv:=o.srv},ghosts:=t.ghosts ++ [(⟨x.par,x.srv,0⟩:Gh)]}:Ab).drained x.par,0,o.id):=by
 unfold Ab.resize;cases h1:o.srv.leg with
 | false => rw [if_pos rfl];exact .inl ⟨7,by decide,rfl⟩
 | true =>
  rw [if_neg (by decide)];rcases Ex t o.id with h2 | ⟨h2,x,h3,h4⟩
  ·rw [if_pos h2];exact .inl ⟨_,h2,rfl⟩
  rw [if_neg (by rw [h2];decide),h3];dsimp only;by_cases h5:x.pol ≠ 0
  ·rw [if_pos h5];exact .inl ⟨3,by decide,rfl⟩
  rw [if_neg h5];by_cases h6:8≤(t.counted x.par).length
  ·rw [if_pos h6];exact .inl ⟨5,by decide,rfl⟩
  rw [if_neg h6];by_cases h7:Am ((t.server x.par).getD AU) (t.counted x.par ++ [o.srv]) ≠ none
  ·rw [if_pos h7];exact .inl ⟨4,by decide,rfl⟩
  rw [if_neg h7];exact .inr ⟨x,rfl,rfl,h4,by simpa using h5,by omega,by simpa using h7,rfl⟩
theorem D4 (t:Ab) (o:A8):(∃ c,c ≠ 0∧t.remove o = (t,c,0)) ∨ ∃ x,∃ t1:Ab,t.find o.id = some x∧t.counted o.id = []∧t1 = {t with nodes:=t.nodes.filter fun x => decide (x.id ≠ o.id),ghosts:=t.ghosts ++ [(⟨x.par,x.srv,0⟩:Gh)]}∧t.remove o = ({t1 with ghosts:=t.ghosts ++ [(⟨x.par,x.srv,if Am ((t1.server x.par).getD AU) (t1.counted x.par) = none then t.now + Bo ((t1.server x.par).getD AU) (t1.counted x.par) else 0⟩:Gh)]},0,o.id):=by
 unfold Ab.remove;rcases Ex t o.id with h2 | ⟨h2,x,h3,h4⟩
 ·rw [if_pos h2];exact .inl ⟨_,h2,rfl⟩
 rw [if_neg (by rw [h2];decide),h3];exact .inr ⟨x,_,rfl,h4,rfl,rfl⟩
theorem Fi (t:Ab) (o:A8):(∃ c,c ≠ 0∧t.bind o = (t,c,0)) ∨ ∃ x,AW o.pol o.tasks = true∧t.find o.id = some x∧t.counted o.id = []∧x.pol = 0∧Bb x.srv o.pol o.tasks = none∧t.bind o = ({t with nodes:=Bu t.nodes o.id fun n => {n with pol:=o.pol,tasks:=o.tasks}},0,o.id):=by
 unfold Ab.bind;cases h1:AW o.pol o.tasks with
 | false => rw [if_pos rfl];exact .inl ⟨8,by decide,rfl⟩
 | true =>
  rw [if_neg (by decide)];rcases Ex t o.id with h2 | ⟨h2,x,h3,h4⟩
  ·rw [if_pos h2];exact .inl ⟨_,h2,rfl⟩
  rw [if_neg (by rw [h2];decide),h3];dsimp only;by_cases h5:x.pol ≠ 0
  ·rw [if_pos h5];exact .inl ⟨3,by decide,rfl⟩
  rw [if_neg h5];by_cases h6:Bb x.srv o.pol o.tasks ≠ none
  ·rw [if_pos h6];exact .inl ⟨4,by decide,rfl⟩
  rw [if_neg h6];exact .inr ⟨x,rfl,rfl,h4,by simpa using h5,by simpa using h6,rfl⟩
theorem EC (t:Ab) (o:A8):(t.apply o = (t,7,0)∧(o.kd < 1 ∨ 4 < o.kd ∨ o.at_ < 0 ∨ 1099511627776 < o.at_)) ∨ 0≤o.at_∧o.at_≤1099511627776∧(o.kd = 1∧t.apply o = (t.tick o.at_).create o ∨ o.kd = 2∧t.apply o = (t.tick o.at_).resize o ∨ o.kd = 3∧t.apply o = (t.tick o.at_).remove o ∨ o.kd = 4∧t.apply o = (t.tick o.at_).bind o):=by
 unfold Ab.apply;by_cases h:o.kd < 1 ∨ 4 < o.kd ∨ o.at_ < 0 ∨ 1099511627776 < o.at_
 ·rw [if_pos h];exact .inl ⟨rfl,h⟩
 ·rw [if_neg h];refine .inr ⟨by omega,by omega,?_⟩;dsimp only;by_cases h1:o.kd = 1
  ·rw [if_pos h1];exact .inl ⟨h1,rfl⟩
  rw [if_neg h1];by_cases h2:o.kd = 2
  ·rw [if_pos h2];exact .inr (.inl ⟨h2,rfl⟩)
  rw [if_neg h2];by_cases h3:o.kd = 3
  ·rw [if_pos h3];exact .inr (.inr (.inl ⟨h3,rfl⟩))
  rw [if_neg h3];exact .inr (.inr (.inr ⟨by omega,rfl⟩))
theorem Bq.tick {n:Nat} {t:Ab} (h:Bq n t) {a:Int} (ha:a≤1099511627776):Bq n (t.tick a):=⟨h.l0,h.l1,by have:=h.n0;show 0≤max t.now a;omega,by have:=h.n1;show max t.now a≤_;omega,h.st,h.lw,h.nl,Nat.le_trans (List.length_filter_le ..) h.gl⟩
theorem BR {t:Ab} {id:Int} {x:Nd} (h:t.find id = some x):x ∈ t.nodes∧x.id = id:=⟨List.mem_of_find?_eq_some h,by have:=List.find?_some h;simpa using this⟩
theorem Bq.drained {n:Nat} {t:Ab} (h:Bq n t) (p:Int):Bq n (t.drained p):=by
 obtain ⟨f,_,h2,_⟩:=Di t p;rw [h2];exact ⟨h.l0,h.l1,h.n0,h.n1,h.st,h.lw,h.nl,by show (t.ghosts.map f).length≤n;rw [List.length_map];exact h.gl⟩
theorem JK {l:List Nd} {id:Int} {f:Nd→Nd} (hf:∀ x,(f x).id = x.id) (h:l.Pairwise fun x y => x.id < y.id):(Bu l id f).Pairwise fun x y => x.id < y.id:=by
 unfold Bu;rw [List.pairwise_map];refine h.imp ?_;intro a b hab;have key:∀ z:Nd,(if z.id = id then f z else z).id = z.id:=fun z => by split;exact hf z;rfl
 rw [key,key];exact hab
theorem CL {l:List Nd} {id:Int} {f:Nd→Nd} {y:Nd} (h:y ∈ Bu l id f):∃ x ∈ l,(x.id ≠ id∧y = x) ∨ (x.id = id∧y = f x):=by
 unfold Bu at h;obtain ⟨x,hx,rfl⟩:=List.mem_map.1 h;by_cases h1:x.id = id
 ·exact ⟨x,hx,.inr ⟨h1,by rw [if_pos h1]⟩⟩
 ·exact ⟨x,hx,.inl ⟨h1,by rw [if_neg h1]⟩⟩
theorem Cm {t:Ab} {id:Int} {s:Ao} (h:t.server id = some s):id = 0∧s = AU ∨ id ≠ 0∧∃ x,t.find id = some x∧s = x.srv:=by
 unfold Ab.server at h;by_cases h0:id = 0
 ·rw [if_pos h0] at h;exact .inl ⟨h0,(Option.some.inj h).symm⟩
 ·rw [if_neg h0] at h;cases hf:t.find id with
  | none => rw [hf] at h;cases h
  | some x => rw [hf] at h;exact .inr ⟨h0,x,rfl,(Option.some.inj h).symm⟩
theorem Bq.below {n:Nat} {t:Ab} (h:Bq n t) {id:Int} {s:Ao} (hs:t.server id = some s):0≤id∧id≤t.last:=by
 rcases Cm hs with ⟨rfl,_⟩ | ⟨_,x,hf,_⟩
 ·exact ⟨by omega,h.l0⟩
 ·obtain ⟨hm,rfl⟩:=BR hf;have:=h.lw x hm;omega
theorem Hw {n:Nat} {t:Ab} (h:Bq n t) {id:Int} {x:Nd} (hf:t.find id = some x):∃ A B,t.nodes = A ++ x :: B∧x.id = id∧∀ y ∈ A ++ B,y.id ≠ id:=by
 obtain ⟨hm,rfl⟩:=BR hf;obtain ⟨A,B,e⟩:=List.append_of_mem hm;refine ⟨A,B,e,rfl,fun y hy => ?_⟩;have h1:=h.st;rw [e,List.pairwise_append,List.pairwise_cons] at h1;rcases List.mem_append.1 hy with hy | hy
 ·have:=h1.2.2 y hy x (by simp);omega
 ·have:=h1.2.1.1 y hy;omega
theorem Mo {A B:List Nd} {x:Nd} {id:Int} {f:Nd→Nd} (hx:x.id = id) (h:∀ y ∈ A ++ B,y.id ≠ id):Bu (A ++ x :: B) id f = A ++ f x :: B:=by
 have key:∀ l:List Nd,(∀ y ∈ l,y.id ≠ id)→l.map (fun n => if n.id = id then f n else n) = l:=by
  intro l hl;have h1:l.map (fun n => if n.id = id then f n else n) = l.map fun n => n:=List.map_congr_left (fun a ha => by rw [if_neg (hl a ha)])
  rw [h1,List.map_id']
 unfold Bu;rw [List.map_append,List.map_cons,if_pos hx,key A (fun y hy => h y (List.mem_append_left _ hy)),key B (fun y hy => h y (List.mem_append_right _ hy))]
theorem Ng {A B:List Nd} {x:Nd} {id:Int} (hx:x.id = id) (h:∀ y ∈ A ++ B,y.id ≠ id):(A ++ x :: B).filter (fun x => decide (x.id ≠ id)) = A ++ B:=by
 have key:∀ l:List Nd,(∀ y ∈ l,y.id ≠ id)→l.filter (fun x => decide (x.id ≠ id)) = l:=fun l hl => List.filter_eq_self.2 (fun a ha => by simpa using hl a ha)
 rw [List.filter_append,List.filter_cons,if_neg (by simp [hx]),key A (fun y hy => h y (List.mem_append_left _ hy)),key B (fun y hy => h y (List.mem_append_right _ hy))]
theorem Bq.step {n:Nat} {t:Ab} (h:Bq n t) (o:A8):Bq (n + 1) (t.apply o).1:=by
 rcases EC t o with ⟨e,_⟩ | ⟨a0,a1,hc⟩
 ·rw [e];exact h.more (by omega)
 have u:=h.tick (a:=o.at_) a1;obtain ⟨t2,ht2⟩:=zE (t.tick o.at_);rw [← ht2] at u hc;have um:=u.more (m:=n + 1) (by omega);rcases hc with ⟨_,e⟩ | ⟨_,e⟩ | ⟨_,e⟩ | ⟨_,e⟩ <;> rw [e]
 ·rcases Ea t2 o with ⟨c,_,e2⟩ | ⟨s,_,hs,_,_,_,_,_,e2⟩ <;> rw [e2]
  ·exact um
  ·obtain ⟨b0,b1⟩:=u.below hs;show Bq (n + 1) (Ab.drained _ o.id);refine Bq.drained ?_ _;refine ⟨by have:=u.l0;show 0≤t2.last + 1;omega,by have:=u.l1;show t2.last + 1≤_;omega,u.n0,u.n1,?_,?_,by show (t2.nodes ++ [_]).length≤_;rw [List.length_append];have:=u.nl;simpa using this,um.gl⟩
   ·show (t2.nodes ++ [_]).Pairwise _;rw [List.pairwise_append];refine ⟨u.st,List.pairwise_singleton _ _,fun a ha b hb => ?_⟩;rw [List.mem_singleton.1 hb];have:=u.lw a ha;show a.id < t2.last + 1;omega
   ·intro x hx;rcases List.mem_append.1 (show x ∈ t2.nodes ++ [_] from hx) with hx | hx
    ·have:=u.lw x hx;exact ⟨this.1,this.2.1,by show x.id≤t2.last + 1;omega⟩
    ·rw [List.mem_singleton.1 hx];exact ⟨b0,by show o.id < t2.last + 1;omega,Int.le_refl _⟩
 ·rcases D3 t2 o with ⟨c,_,e2⟩ | ⟨x,_,hf,_,_,_,_,e2⟩ <;> rw [e2]
  ·exact um
  ·show Bq (n + 1) (Ab.drained _ x.par);refine Bq.drained ?_ _;refine ⟨u.l0,um.l1,u.n0,u.n1,JK (fun _ => rfl) u.st,fun y hy => ?_,by show (Bu _ _ _).length≤_;unfold Bu;rw [List.length_map];exact um.nl,by show (t2.ghosts ++ [_]).length≤_;rw [List.length_append];have:=u.gl;simpa using this⟩;obtain ⟨z,hz,⟨_,e⟩ | ⟨_,e⟩⟩:=CL hy <;> (rw [e];exact u.lw z hz)
 ·rcases D4 t2 o with ⟨c,_,e2⟩ | ⟨x,t1,hf,_,e3,e2⟩ <;> rw [e2]
  ·exact um
  ·rw [e3];exact ⟨u.l0,um.l1,u.n0,u.n1,u.st.filter _,fun y hy => u.lw y ((List.mem_filter.1 hy).1),Nat.le_trans (List.length_filter_le ..) um.nl,by show (t2.ghosts ++ [_]).length≤_;rw [List.length_append];have:=u.gl;simpa using this⟩
 ·rcases Fi t2 o with ⟨c,_,e2⟩ | ⟨x,_,hf,_,_,_,e2⟩ <;> rw [e2]
  ·exact um
  ·refine ⟨u.l0,um.l1,u.n0,u.n1,JK (fun _ => rfl) u.st,fun y hy => ?_,by show (Bu _ _ _).length≤_;unfold Bu;rw [List.length_map];exact um.nl,um.gl⟩;obtain ⟨z,hz,⟨_,e⟩ | ⟨_,e⟩⟩:=CL hy <;> (rw [e];exact u.lw z hz)
def Hn (l:List A8):Ab:=l.foldl (fun t o => (t.apply o).1) ⟨[],[],0,0⟩
theorem Li (l:List A8) (o:A8):Hn (l ++ [o]) = ((Hn l).apply o).1:=by unfold Hn;rw [List.foldl_append];rfl
theorem Mp (l:List A8):Bq l.length (Hn l):=by
 have key:∀ (l:List A8) (n:Nat) (t:Ab),Bq n t→Bq (n + l.length) (l.foldl (fun t o => (t.apply o).1) t):=by
  intro l;induction l with
  | nil => intro n t h;exact h
  | cons o r ih =>
   intro n t h;have:=ih (n + 1) _ (h.step o);rw [List.foldl_cons,List.length_cons,show n + (r.length + 1) = n + 1 + r.length by omega];exact this
 have:=key l 0 _ Bq.zero;rw [Nat.zero_add] at this;exact this
def Eh (e:Du):A8:=⟨e.kd,e.id,e.srv,e.po,e.tasks,e.at_⟩
def FX:Ab→List A8→List (Int × Int)
 | _,[] => []
 | t,o :: r => (t.apply o).2 :: FX (t.apply o).1 r
theorem Mw (t:Ab) (l:List A8) (o:A8):FX t (l ++ [o]) = FX t l ++ [((l.foldl (fun t o => (t.apply o).1) t).apply o).2]:=by
 induction l generalizing t with
 | nil => rfl
 | cons x r ih => rw [List.cons_append,FX,FX,ih];rfl
theorem NO (t:Ab) (l:List A8):(FX t l).length = l.length:=by
 induction l generalizing t with
 | nil => rfl
 | cons x r ih => rw [FX,List.length_cons,ih,List.length_cons]
theorem Mv (t:Ab) (l m:List A8):(FX t (l ++ m)).take l.length = FX t l:=by
 induction l generalizing t with
 | nil => rfl
 | cons x r ih => rw [List.cons_append,FX,FX,List.length_cons,List.take_succ_cons,ih]
def He:List Du→Int→Int→Option Nat
 | [],_,_ => none
 | e :: r,c,n => if e.cl = c∧e.nu = n then some 0 else (He r c n).map (· + 1)
theorem J4 {l:List Du} {c n:Int} {k:Nat} (h:He l c n = some k):∃ e,l[k]? = some e∧e.cl = c∧e.nu = n∧∀ j < k,∀ x,l[j]? = some x→¬ (x.cl = c∧x.nu = n):=by
 induction l generalizing k with
 | nil => cases h
 | cons e r ih =>
  unfold He at h;by_cases hc:e.cl = c∧e.nu = n
  ·rw [if_pos hc] at h;obtain rfl:=Option.some.inj h;exact ⟨e,rfl,hc.1,hc.2,fun j hj => by omega⟩
  ·rw [if_neg hc] at h;cases hr:He r c n with
   | none => rw [hr] at h;cases h
   | some i =>
    rw [hr] at h;obtain rfl:i + 1 = k:=Option.some.inj h;obtain ⟨x,h1,h2,h3,h4⟩:=ih hr;refine ⟨x,h1,h2,h3,fun j hj y hy => ?_⟩;cases j with
    | zero =>
     obtain rfl:e = y:=by simpa using hy
     exact hc
    | succ j => exact h4 j (by omega) y hy
def N0 (l:List Du) (c n:Int):Bool:=l.any fun e => decide (e.cl = c) && decide (n < e.nu)
def GH (l:List Du) (c n:Int):Option (Int × Int):=match He l c n with
 | some k => some (((FX ⟨[],[],0,0⟩ (l.map Eh))[k]?).getD (0,0))
 | none => if N0 l c n then some (102,0) else none
end Go.Proofs.YtdfelohjdkcpkaaGreatDoor
