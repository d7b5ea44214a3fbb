/- tree.Apply. Printed by gen_t27.py. -/
import Derived.Test.YtdfelohjdkcpkaaGreatDoorK17
import Derived.Test.YtdfelohjdkcpkaaGreatDoorK16
import Derived.Test.YtdfelohjdkcpkaaGreatDoorK10
namespace Go.Proofs.YtdfelohjdkcpkaaGreatDoor
open Go.RowKit
theorem sane_in {n:Nat} {T:TM} (h:Sane n T.v) (hn:n < 1000000):Srt T.N∧Low T.N∧(∀ x ∈ T.N,x.e.id≤T.last)∧0≤T.last∧T.last≤1000000∧0≤T.now∧T.now≤1099511627776∧T.G.length < 1000000:=by
 have hm:∀ x ∈ T.N,x.e ∈ T.v.nodes:=fun x hx => List.mem_map.2 ⟨x,hx,rfl⟩
 have h1:=h.l1;refine ⟨fun i j x y hi hj hij => ?_,fun x hx => ?_,fun x hx => (h.lw _ (hm x hx)).2.2,h.l0,?_,h.n0,h.n1,?_⟩
 ·have hs:=List.pairwise_iff_getElem.1 h.st;obtain ⟨hi2,hi3⟩:=List.getElem?_eq_some_iff.1 hi;obtain ⟨hj2,hj3⟩:=List.getElem?_eq_some_iff.1 hj;have:=hs i j (by simpa using hi2) (by simpa using hj2) hij;simp only [List.getElem_map,hi3,hj3] at this;exact this
 ·have:=h.lw _ (hm x hx);dsimp only at h1 this;omega
 ·dsimp only at h1;omega
 ·have:=h.gl;dsimp only at this;omega
def NewR (r:TreeV × Int × Int) (w:World) (e:Ending) (w':World):Prop:=∃ T':TM,e = .returned (.tuple #[.agg T'.row,.agg #[.int .i64 r.2.1,.int .i64 r.2.2]])∧T'.v = r.1∧OwnT w.heap.size w' T'∧Gr w w'
theorem apply_bad {t:TreeV} {o:OrdV} (h:ordF o.kd = none ∨ o.at_ < 0 ∨ 1099511627776 < o.at_):t.apply o = (t,7,0):=by
 unfold TreeV.apply;rw [if_pos];rcases h with h | h | h
 ·unfold ordF at h;by_cases h1:o.kd = 1
  ·rw [if_pos h1] at h;cases h
  by_cases h2:o.kd = 2
  ·rw [if_neg h1,if_pos h2] at h;cases h
  by_cases h3:o.kd = 3
  ·rw [if_neg h1,if_neg h2,if_pos h3] at h;cases h
  by_cases h4:o.kd = 4
  ·rw [if_neg h1,if_neg h2,if_neg h3,if_pos h4] at h;cases h
  omega
 ·exact .inr (.inr (.inl h))
 ·exact .inr (.inr (.inr h))
theorem tm_tick {T1 T2:TM} {a:Int} (hN:T2.N = T1.N) (hl:T2.last = T1.last) (hn:T2.now = max T1.now a) (hG:T2.G = T1.G.filter (keepG (max T1.now a))):T2.v = T1.v.tick a:=by
 show (⟨T2.N.map (·.e),T2.G,T2.last,T2.now⟩:TreeV) = ⟨T1.N.map (·.e),T1.G.filter _,T1.last,max T1.now a⟩
 rw [hN,hl,hn,hG]
theorem ownB_len (a:Option Addr) (n m c:Nat):(Value.slice a n c).ownBlock = (Value.slice a m c).ownBlock:=by
 rcases a with _ | ⟨b,o,s⟩
 ·rfl
 ·rfl
theorem res_out {w w4 wf:World} {tb:Nat} {T:TM} {c i:Int} (hA:OutAt (w.heap.size + 4) w4 tb T) (hP:Blk w4 (w.heap.size + 1 + 1) #[.slice none 0 0,.slice none 0 0,.int .i64 0,.int .i64 0] 27) (hR:Blk w4 (w.heap.size + 1 + 1 + 1) #[.int .i64 0,.int .i64 0] 34) (g:Gr w w4) (hw:wf = (((((w4.setCell ⟨w.heap.size + 1 + 1,0,none⟩ (.slice T.an T.N.length T.cn)).setCell ⟨w.heap.size + 1 + 1,1,none⟩ (.slice T.ag T.G.length T.cg)).setCell ⟨w.heap.size + 1 + 1,2,none⟩ (.int .i64 T.last)).setCell ⟨w.heap.size + 1 + 1,3,none⟩ (.int .i64 T.now)).setCell ⟨w.heap.size + 1 + 1 + 1,0,none⟩ (.int .i64 c)).setCell ⟨w.heap.size + 1 + 1 + 1,1,none⟩ (.int .i64 i)) :
 Blk wf (w.heap.size + 1 + 1) T.row 27∧Blk wf (w.heap.size + 1 + 1 + 1) #[.int .i64 c,.int .i64 i] 34∧OwnT w.heap.size wf T∧Gr w wf:=by
 have gx:GrX [w.heap.size + 1 + 1,w.heap.size + 1 + 1 + 1] w4 wf:=by
  rw [hw];exact ((((((GrX.refl _ _).set (.inl (by simp)) _).set (.inl (by simp)) _).set (.inl (by simp)) _).set (.inl (by simp)) _).set (.inl (by simp)) _).set (.inl (by simp)) _
 refine ⟨?_,?_,?_,gx.all g (fun y hy => by simp at hy;omega)⟩
 ·rw [hw];exact (((((hP.set 0 (.slice T.an T.N.length T.cn)).set 1 (.slice T.ag T.G.length T.cg)).set 2 (.int .i64 T.last)).set 3 (.int .i64 T.now)).other (by show w.heap.size + 1 + 1 ≠ w.heap.size + 1 + 1 + 1;omega) _).other (by show w.heap.size + 1 + 1 ≠ w.heap.size + 1 + 1 + 1;omega) _
 ·rw [hw];have h1:w.heap.size + 1 + 1 + 1 ≠ w.heap.size + 1 + 1:=by omega
  exact (((((hR.other (a:=⟨w.heap.size + 1 + 1,0,none⟩) h1 _).other (a:=⟨w.heap.size + 1 + 1,1,none⟩) h1 _).other (a:=⟨w.heap.size + 1 + 1,2,none⟩) h1 _).other (a:=⟨w.heap.size + 1 + 1,3,none⟩) h1 _).set 0 (.int .i64 c)).set 1 (.int .i64 i)
 ·exact (hA.t.grx gx (fun y hy => by simp at hy;omega)).base (by omega)
set_option maxRecDepth 100000 in
set_option maxHeartbeats 12800000 in
theorem applyC_no (T:TM) (w:World) (hT:TreeAt Any w T) (o:OrdV) (oa:Option Addr) (oc:Nat) (hkd:-9223372036854775808≤o.kd∧o.kd≤9223372036854775807) (hb:ordF o.kd = none) :
 Calls Tryz.prog 13 #[.agg T.row,.agg #[.int .i64 o.kd,.int .i64 o.id,.int .i64 o.srv.k,.int .i64 o.srv.q,.int .i64 o.srv.t,.int .i64 o.pol,.slice oa o.tasks.length oc,.int .i64 o.at_]] w (NewR (T.v.apply o) w):=by
 obtain ⟨V,hV⟩:∃ V,V = T.v.apply o:=⟨_,rfl⟩
 rw [← hV];obtain ⟨W,hW⟩:∃ W,W = (((w.alloc (.cells T.row 27)).alloc (.cells #[.int .i64 o.kd,.int .i64 o.id,.int .i64 o.srv.k,.int .i64 o.srv.q,.int .i64 o.srv.t,.int .i64 o.pol,.slice oa o.tasks.length oc,.int .i64 o.at_] 32)).alloc (.cells #[.slice none 0 0,.slice none 0 0,.int .i64 0,.int .i64 0] 27)).alloc (.cells #[.int .i64 0,.int .i64 0] 34):=⟨_,rfl⟩
 have gA:Gr w W:=by rw [hW];exact ((((Gr.refl w).alloc _).alloc _).alloc _).alloc _
 have hXW:Blk W w.heap.size T.row 27:=by rw [hW];exact (((Blk.new w _ _).alloc _).alloc _).alloc _
 have hOW:Blk W (w.heap.size + 1) #[.int .i64 o.kd,.int .i64 o.id,.int .i64 o.srv.k,.int .i64 o.srv.q,.int .i64 o.srv.t,.int .i64 o.pol,.slice oa o.tasks.length oc,.int .i64 o.at_] 32:=by
  rw [hW];have:=Blk.new (w.alloc (.cells T.row 27)) #[.int .i64 o.kd,.int .i64 o.id,.int .i64 o.srv.k,.int .i64 o.srv.q,.int .i64 o.srv.t,.int .i64 o.pol,.slice oa o.tasks.length oc,.int .i64 o.at_] 32;rw [World.size_alloc] at this;exact (this.alloc _).alloc _
 have hPW:Blk W (w.heap.size + 2) #[.slice none 0 0,.slice none 0 0,.int .i64 0,.int .i64 0] 27:=by
  rw [hW];have:=Blk.new ((w.alloc (.cells T.row 27)).alloc (.cells #[.int .i64 o.kd,.int .i64 o.id,.int .i64 o.srv.k,.int .i64 o.srv.q,.int .i64 o.srv.t,.int .i64 o.pol,.slice oa o.tasks.length oc,.int .i64 o.at_] 32)) #[.slice none 0 0,.slice none 0 0,.int .i64 0,.int .i64 0] 27;rw [World.size_alloc,World.size_alloc] at this;exact this.alloc _
 have hRW:Blk W (w.heap.size + 3) #[.int .i64 0,.int .i64 0] 34:=by
  rw [hW];have:=Blk.new (((w.alloc (.cells T.row 27)).alloc (.cells #[.int .i64 o.kd,.int .i64 o.id,.int .i64 o.srv.k,.int .i64 o.srv.q,.int .i64 o.srv.t,.int .i64 o.pol,.slice oa o.tasks.length oc,.int .i64 o.at_] 32)).alloc (.cells #[.slice none 0 0,.slice none 0 0,.int .i64 0,.int .i64 0] 27)) #[.int .i64 0,.int .i64 0] 34;rw [World.size_alloc,World.size_alloc,World.size_alloc] at this;exact this
 have hWz:W.heap.size = w.heap.size + 4:=by rw [hW];simp
 have hcp:=tcopied_any T W (hT.gr gA);have x0:=hXW.cell (i:=0) (v:=.slice T.an T.N.length T.cn) rfl;have x1:=hXW.cell (i:=1) (v:=.slice T.ag T.G.length T.cg) rfl;have x2:=hXW.cell (i:=2) (v:=.int .i64 T.last) rfl;have x3:=hXW.cell (i:=3) (v:=.int .i64 T.now) rfl;replace hW:=Lib.hid hW;replace hXW:=Lib.hid hXW;replace hOW:=Lib.hid hOW;replace hPW:=Lib.hid hPW;replace hRW:=Lib.hid hRW;replace hcp:=Lib.hid hcp;replace hT:=Lib.hid hT;replace hV:=Lib.hid hV;go_enter Tryz.func13,Tryz.ntmps13;go_upto_region 1 with fail
 rw [← hW.out];go_wp2_with fail;refine hcp.out.mono ?_;rintro e w1 ⟨T1,rfl,hT1v,hT1,g1⟩;obtain ⟨tb,htb⟩:∃ tb,tb = w1.heap.size:=⟨_,rfl⟩
 obtain ⟨w2,hw2⟩:∃ w2,w2 = w1.alloc (.cells T1.row 27):=⟨_,rfl⟩
 have gw2:Gr w1 w2:=by rw [hw2];exact (Gr.refl w1).alloc _
 have hX2:Blk w2 tb T1.row 27:=by rw [hw2,htb];exact Blk.new w1 _ _
 have hg1z:=g1.size;have hgw2z:=gw2.size;have hA2:OutAt (w.heap.size + 4) w2 tb T1:=⟨hX2,(hT1.base (by omega)).gr gw2,by omega,fun x hx ad ha ht e => by have:=(hT1.k x hx).1.1.lt ha ht;omega⟩
 have hO2:=(hOW.out.gr g1).gr gw2;have hP2:=(hPW.out.gr g1).gr gw2;have hR2:=(hRW.out.gr g1).gr gw2;have gW2:=(gA.trans g1).trans gw2;have hz2:w2.heap.size = tb + 1:=by rw [hw2,htb];simp
 have hq2:tb ≠ w.heap.size + 1 + 1:=by omega
 have hq3:tb ≠ w.heap.size + 1 + 1 + 1:=by omega
 have hq2s:w.heap.size + 1 + 1 ≠ tb:=by omega
 have hq3s:w.heap.size + 1 + 1 + 1 ≠ tb:=by omega
 have htz:w.heap.size + 4≤tb:=by omega
 replace hg1z:=Lib.hid hg1z;replace hgw2z:=Lib.hid hgw2z;replace hWz:=Lib.hid hWz;clear x0 x1 x2 x3;have t0:=hA2.o.cell (i:=0) (v:=.slice T1.an T1.N.length T1.cn) rfl;have t1:=hA2.o.cell (i:=1) (v:=.slice T1.ag T1.G.length T1.cg) rfl;have t2:=hA2.o.cell (i:=2) (v:=.int .i64 T1.last) rfl;have t3:=hA2.o.cell (i:=3) (v:=.int .i64 T1.now) rfl;have o0:=hO2.cell (i:=0) (v:=.int .i64 o.kd) rfl;have o1:=hO2.cell (i:=1) (v:=.int .i64 o.id) rfl;have o2:=hO2.cell (i:=2) (v:=.int .i64 o.srv.k) rfl;have o3:=hO2.cell (i:=3) (v:=.int .i64 o.srv.q) rfl;have o4:=hO2.cell (i:=4) (v:=.int .i64 o.srv.t) rfl;have o5:=hO2.cell (i:=5) (v:=.int .i64 o.pol) rfl;have o6:=hO2.cell (i:=6) (v:=.slice oa o.tasks.length oc) rfl;have o7:=hO2.cell (i:=7) (v:=.int .i64 o.at_) rfl;replace hT1:=Lib.hid hT1;replace hw2:=Lib.hid hw2;replace hX2:=Lib.hid hX2;replace hA2:=Lib.hid hA2;replace hO2:=Lib.hid hO2;replace hP2:=Lib.hid hP2;replace hR2:=Lib.hid hR2;replace htb:=Lib.hid htb;replace hz2:=Lib.hid hz2;go_upto_region 2 with fail
 rw [← htb.out,← hw2.out];obtain ⟨w3,hw3⟩:∃ w3,w3 = w2.drew.alloc (.map ordsE 4):=⟨_,rfl⟩
 have g3:Gr w2 w3:=by rw [hw3];exact ((Gr.refl w2).drew).alloc _
 obtain ⟨z,hz⟩:=run_look w3 w2.drew.heap.size (by rw [hw3];exact heap_alloc_new _ _) o.kd hkd;have hor:=orders_any w2.drew;rw [← hw3] at hor;obtain ⟨mb,hmb⟩:∃ mb,mb = w2.drew.heap.size:=⟨_,rfl⟩
 rw [← hmb] at hz hor;replace hmb:=Lib.hid hmb;have gX3:=((g1.trans gw2).trans g3)
 have hA3:=hA2.out.gr g3;have hO3:=hO2.out.gr g3;have hP3:=hP2.out.gr g3;have hR3:=hR2.out.gr g3;have gW3:=gW2.trans g3;have hv1:T1.v = T.v:=hT1v;have u0:=hA3.o.cell (i:=0) (v:=.slice T1.an T1.N.length T1.cn) rfl;have u1:=hA3.o.cell (i:=1) (v:=.slice T1.ag T1.G.length T1.cg) rfl;have u2:=hA3.o.cell (i:=2) (v:=.int .i64 T1.last) rfl;have u3:=hA3.o.cell (i:=3) (v:=.int .i64 T1.now) rfl;have p0:=hO3.cell (i:=0) (v:=.int .i64 o.kd) rfl;have p1:=hO3.cell (i:=1) (v:=.int .i64 o.id) rfl;have p2:=hO3.cell (i:=2) (v:=.int .i64 o.srv.k) rfl;have p3:=hO3.cell (i:=3) (v:=.int .i64 o.srv.q) rfl;have p4:=hO3.cell (i:=4) (v:=.int .i64 o.srv.t) rfl;have p5:=hO3.cell (i:=5) (v:=.int .i64 o.pol) rfl;have p6:=hO3.cell (i:=6) (v:=.slice oa o.tasks.length oc) rfl;have p7:=hO3.cell (i:=7) (v:=.int .i64 o.at_) rfl;replace hor:=Lib.hid hor;replace hA3:=Lib.hid hA3;replace hO3:=Lib.hid hO3;replace hP3:=Lib.hid hP3;replace hR3:=Lib.hid hR3;replace hw3:=Lib.hid hw3;replace hv1:=Lib.hid hv1;replace gX3:=Lib.hid gX3;rw [hb] at hz;replace hb:=Lib.hid hb;go_region_held3 (fun w' => w'.cell? ⟨w.heap.size + 1,0,none⟩ = some (.int .i64 o.kd)∧w'.cell? ⟨w.heap.size + 1,1,none⟩ = some (.int .i64 o.id)∧w'.cell? ⟨w.heap.size + 1,2,none⟩ = some (.int .i64 o.srv.k)∧w'.cell? ⟨w.heap.size + 1,3,none⟩ = some (.int .i64 o.srv.q)∧w'.cell? ⟨w.heap.size + 1,4,none⟩ = some (.int .i64 o.srv.t)∧w'.cell? ⟨w.heap.size + 1,5,none⟩ = some (.int .i64 o.pol)∧w'.cell? ⟨w.heap.size + 1,6,none⟩ = some (.slice oa o.tasks.length oc)∧w'.cell? ⟨w.heap.size + 1,7,none⟩ = some (.int .i64 o.at_)) (simp (maxDischargeDepth:=8) [go_sem, *])
  (first
   | (go_at_call 44;(with_reducible refine hor.out.mono ?_);rintro e wq ⟨rfl,hwq⟩;have hwq2:=hwq.symm;clear hwq;subst hwq2)
   | fail)
 go_upto_region 4 with fail
 go_region_held3 (fun w' => w'.cell? ⟨tb,0,none⟩ = some (.slice T1.an T1.N.length T1.cn)∧w'.cell? ⟨tb,1,none⟩ = some (.slice T1.ag T1.G.length T1.cg)∧w'.cell? ⟨tb,2,none⟩ = some (.int .i64 T1.last)∧w'.cell? ⟨tb,3,none⟩ = some (.int .i64 T1.now)) (simp (maxDischargeDepth:=8) [go_sem, *])
  (first
   | (go_at_call 45;(with_reducible refine (refused_any 7 _).mono ?_);rintro e w4 ⟨rfl,g4⟩;have gq:Gr w3 w4:=((Gr.refl w3).drew).trans g4;have hA4:=hA3.out.gr gq;have hP4:=hP3.out.gr gq;have hR4:=hR3.out.gr gq;have gW4:=gW3.trans gq;have v0:=hA4.o.cell (i:=0) (v:=.slice T1.an T1.N.length T1.cn) rfl;have v1:=hA4.o.cell (i:=1) (v:=.slice T1.ag T1.G.length T1.cg) rfl;have v2:=hA4.o.cell (i:=2) (v:=.int .i64 T1.last) rfl;have v3:=hA4.o.cell (i:=3) (v:=.int .i64 T1.now) rfl;have pf:=fun i => hP4.free i;have rf:=fun i => hR4.free i;have k0:=hP4.cell (i:=0) (v:=.slice none 0 0) rfl;have k1:=hP4.cell (i:=1) (v:=.slice none 0 0) rfl;have k2:=hP4.cell (i:=2) (v:=.int .i64 0) rfl;have k3:=hP4.cell (i:=3) (v:=.int .i64 0) rfl;have j0:=hR4.cell (i:=0) (v:=.int .i64 0) rfl;have j1:=hR4.cell (i:=1) (v:=.int .i64 0) rfl;replace hA4:=Lib.hid hA4;replace hP4:=Lib.hid hP4;replace hR4:=Lib.hid hR4)
   | fail)
 clear t0 t1 t2 t3 u0 u1 u2 u3 v0 v1 v2 v3 k0 k1 k2 k3 j0 j1 o0 o1 o2 o3 o4 o5 o6 o7 p0 p1 p2 p3 p4 p5 p6 p7;obtain ⟨wf,hwf⟩:∃ wf,wf = (((((w4.setCell ⟨w.heap.size + 1 + 1,0,none⟩ (.slice T1.an T1.N.length T1.cn)).setCell ⟨w.heap.size + 1 + 1,1,none⟩ (.slice T1.ag T1.G.length T1.cg)).setCell ⟨w.heap.size + 1 + 1,2,none⟩ (.int .i64 T1.last)).setCell ⟨w.heap.size + 1 + 1,3,none⟩ (.int .i64 T1.now)).setCell ⟨w.heap.size + 1 + 1 + 1,0,none⟩ (.int .i64 7)).setCell ⟨w.heap.size + 1 + 1 + 1,1,none⟩ (.int .i64 0):=⟨_,rfl⟩
 rw [← hwf];obtain ⟨hPf,hRf,hTf,gWf⟩:=res_out hA4.out hP4.out hR4.out gW4 hwf;have k0:=hPf.cell (i:=0) (v:=.slice T1.an T1.N.length T1.cn) rfl;have k1:=hPf.cell (i:=1) (v:=.slice T1.ag T1.G.length T1.cg) rfl;have k2:=hPf.cell (i:=2) (v:=.int .i64 T1.last) rfl;have k3:=hPf.cell (i:=3) (v:=.int .i64 T1.now) rfl;have j0:=hRf.cell (i:=0) (v:=.int .i64 7) rfl;have j1:=hRf.cell (i:=1) (v:=.int .i64 0) rfl;replace hwf:=Lib.hid hwf;go_wp2_with fail;refine bodyPost_ret (v:=.tuple #[.agg T1.row,.agg #[.int .i64 7,.int .i64 0]]) (by simp [results,Tryz.results13,go_sem,k0,k1,k2,k3,j0,j1]) rfl ?_;refine ⟨T1,?_,?_,hTf,gWf⟩
 ·rw [hV.out,apply_bad (.inl hb.out)]
 ·rw [hV.out,apply_bad (.inl hb.out)];exact hv1.out
set_option maxRecDepth 100000 in
set_option maxHeartbeats 12800000 in
theorem applyC_lo (T:TM) (w:World) (hT:TreeAt Any w T) (o:OrdV) (oa:Option Addr) (oc:Nat) (hkd:-9223372036854775808≤o.kd∧o.kd≤9223372036854775807) {f:Nat} (hf:ordF o.kd = some f) (hb:o.at_ < 0) :
 Calls Tryz.prog 13 #[.agg T.row,.agg #[.int .i64 o.kd,.int .i64 o.id,.int .i64 o.srv.k,.int .i64 o.srv.q,.int .i64 o.srv.t,.int .i64 o.pol,.slice oa o.tasks.length oc,.int .i64 o.at_]] w (NewR (T.v.apply o) w):=by
 obtain ⟨V,hV⟩:∃ V,V = T.v.apply o:=⟨_,rfl⟩
 rw [← hV];obtain ⟨W,hW⟩:∃ W,W = (((w.alloc (.cells T.row 27)).alloc (.cells #[.int .i64 o.kd,.int .i64 o.id,.int .i64 o.srv.k,.int .i64 o.srv.q,.int .i64 o.srv.t,.int .i64 o.pol,.slice oa o.tasks.length oc,.int .i64 o.at_] 32)).alloc (.cells #[.slice none 0 0,.slice none 0 0,.int .i64 0,.int .i64 0] 27)).alloc (.cells #[.int .i64 0,.int .i64 0] 34):=⟨_,rfl⟩
 have gA:Gr w W:=by rw [hW];exact ((((Gr.refl w).alloc _).alloc _).alloc _).alloc _
 have hXW:Blk W w.heap.size T.row 27:=by rw [hW];exact (((Blk.new w _ _).alloc _).alloc _).alloc _
 have hOW:Blk W (w.heap.size + 1) #[.int .i64 o.kd,.int .i64 o.id,.int .i64 o.srv.k,.int .i64 o.srv.q,.int .i64 o.srv.t,.int .i64 o.pol,.slice oa o.tasks.length oc,.int .i64 o.at_] 32:=by
  rw [hW];have:=Blk.new (w.alloc (.cells T.row 27)) #[.int .i64 o.kd,.int .i64 o.id,.int .i64 o.srv.k,.int .i64 o.srv.q,.int .i64 o.srv.t,.int .i64 o.pol,.slice oa o.tasks.length oc,.int .i64 o.at_] 32;rw [World.size_alloc] at this;exact (this.alloc _).alloc _
 have hPW:Blk W (w.heap.size + 2) #[.slice none 0 0,.slice none 0 0,.int .i64 0,.int .i64 0] 27:=by
  rw [hW];have:=Blk.new ((w.alloc (.cells T.row 27)).alloc (.cells #[.int .i64 o.kd,.int .i64 o.id,.int .i64 o.srv.k,.int .i64 o.srv.q,.int .i64 o.srv.t,.int .i64 o.pol,.slice oa o.tasks.length oc,.int .i64 o.at_] 32)) #[.slice none 0 0,.slice none 0 0,.int .i64 0,.int .i64 0] 27;rw [World.size_alloc,World.size_alloc] at this;exact this.alloc _
 have hRW:Blk W (w.heap.size + 3) #[.int .i64 0,.int .i64 0] 34:=by
  rw [hW];have:=Blk.new (((w.alloc (.cells T.row 27)).alloc (.cells #[.int .i64 o.kd,.int .i64 o.id,.int .i64 o.srv.k,.int .i64 o.srv.q,.int .i64 o.srv.t,.int .i64 o.pol,.slice oa o.tasks.length oc,.int .i64 o.at_] 32)).alloc (.cells #[.slice none 0 0,.slice none 0 0,.int .i64 0,.int .i64 0] 27)) #[.int .i64 0,.int .i64 0] 34;rw [World.size_alloc,World.size_alloc,World.size_alloc] at this;exact this
 have hWz:W.heap.size = w.heap.size + 4:=by rw [hW];simp
 have hcp:=tcopied_any T W (hT.gr gA);have x0:=hXW.cell (i:=0) (v:=.slice T.an T.N.length T.cn) rfl;have x1:=hXW.cell (i:=1) (v:=.slice T.ag T.G.length T.cg) rfl;have x2:=hXW.cell (i:=2) (v:=.int .i64 T.last) rfl;have x3:=hXW.cell (i:=3) (v:=.int .i64 T.now) rfl;replace hW:=Lib.hid hW;replace hXW:=Lib.hid hXW;replace hOW:=Lib.hid hOW;replace hPW:=Lib.hid hPW;replace hRW:=Lib.hid hRW;replace hcp:=Lib.hid hcp;replace hT:=Lib.hid hT;replace hV:=Lib.hid hV;go_enter Tryz.func13,Tryz.ntmps13;go_upto_region 1 with fail
 rw [← hW.out];go_wp2_with fail;refine hcp.out.mono ?_;rintro e w1 ⟨T1,rfl,hT1v,hT1,g1⟩;obtain ⟨tb,htb⟩:∃ tb,tb = w1.heap.size:=⟨_,rfl⟩
 obtain ⟨w2,hw2⟩:∃ w2,w2 = w1.alloc (.cells T1.row 27):=⟨_,rfl⟩
 have gw2:Gr w1 w2:=by rw [hw2];exact (Gr.refl w1).alloc _
 have hX2:Blk w2 tb T1.row 27:=by rw [hw2,htb];exact Blk.new w1 _ _
 have hg1z:=g1.size;have hgw2z:=gw2.size;have hA2:OutAt (w.heap.size + 4) w2 tb T1:=⟨hX2,(hT1.base (by omega)).gr gw2,by omega,fun x hx ad ha ht e => by have:=(hT1.k x hx).1.1.lt ha ht;omega⟩
 have hO2:=(hOW.out.gr g1).gr gw2;have hP2:=(hPW.out.gr g1).gr gw2;have hR2:=(hRW.out.gr g1).gr gw2;have gW2:=(gA.trans g1).trans gw2;have hz2:w2.heap.size = tb + 1:=by rw [hw2,htb];simp
 have hq2:tb ≠ w.heap.size + 1 + 1:=by omega
 have hq3:tb ≠ w.heap.size + 1 + 1 + 1:=by omega
 have hq2s:w.heap.size + 1 + 1 ≠ tb:=by omega
 have hq3s:w.heap.size + 1 + 1 + 1 ≠ tb:=by omega
 have htz:w.heap.size + 4≤tb:=by omega
 replace hg1z:=Lib.hid hg1z;replace hgw2z:=Lib.hid hgw2z;replace hWz:=Lib.hid hWz;clear x0 x1 x2 x3;have t0:=hA2.o.cell (i:=0) (v:=.slice T1.an T1.N.length T1.cn) rfl;have t1:=hA2.o.cell (i:=1) (v:=.slice T1.ag T1.G.length T1.cg) rfl;have t2:=hA2.o.cell (i:=2) (v:=.int .i64 T1.last) rfl;have t3:=hA2.o.cell (i:=3) (v:=.int .i64 T1.now) rfl;have o0:=hO2.cell (i:=0) (v:=.int .i64 o.kd) rfl;have o1:=hO2.cell (i:=1) (v:=.int .i64 o.id) rfl;have o2:=hO2.cell (i:=2) (v:=.int .i64 o.srv.k) rfl;have o3:=hO2.cell (i:=3) (v:=.int .i64 o.srv.q) rfl;have o4:=hO2.cell (i:=4) (v:=.int .i64 o.srv.t) rfl;have o5:=hO2.cell (i:=5) (v:=.int .i64 o.pol) rfl;have o6:=hO2.cell (i:=6) (v:=.slice oa o.tasks.length oc) rfl;have o7:=hO2.cell (i:=7) (v:=.int .i64 o.at_) rfl;replace hT1:=Lib.hid hT1;replace hw2:=Lib.hid hw2;replace hX2:=Lib.hid hX2;replace hA2:=Lib.hid hA2;replace hO2:=Lib.hid hO2;replace hP2:=Lib.hid hP2;replace hR2:=Lib.hid hR2;replace htb:=Lib.hid htb;replace hz2:=Lib.hid hz2;go_upto_region 2 with fail
 rw [← htb.out,← hw2.out];obtain ⟨w3,hw3⟩:∃ w3,w3 = w2.drew.alloc (.map ordsE 4):=⟨_,rfl⟩
 have g3:Gr w2 w3:=by rw [hw3];exact ((Gr.refl w2).drew).alloc _
 obtain ⟨z,hz⟩:=run_look w3 w2.drew.heap.size (by rw [hw3];exact heap_alloc_new _ _) o.kd hkd;have hor:=orders_any w2.drew;rw [← hw3] at hor;obtain ⟨mb,hmb⟩:∃ mb,mb = w2.drew.heap.size:=⟨_,rfl⟩
 rw [← hmb] at hz hor;replace hmb:=Lib.hid hmb;have gX3:=((g1.trans gw2).trans g3)
 have hA3:=hA2.out.gr g3;have hO3:=hO2.out.gr g3;have hP3:=hP2.out.gr g3;have hR3:=hR2.out.gr g3;have gW3:=gW2.trans g3;have hv1:T1.v = T.v:=hT1v;have u0:=hA3.o.cell (i:=0) (v:=.slice T1.an T1.N.length T1.cn) rfl;have u1:=hA3.o.cell (i:=1) (v:=.slice T1.ag T1.G.length T1.cg) rfl;have u2:=hA3.o.cell (i:=2) (v:=.int .i64 T1.last) rfl;have u3:=hA3.o.cell (i:=3) (v:=.int .i64 T1.now) rfl;have p0:=hO3.cell (i:=0) (v:=.int .i64 o.kd) rfl;have p1:=hO3.cell (i:=1) (v:=.int .i64 o.id) rfl;have p2:=hO3.cell (i:=2) (v:=.int .i64 o.srv.k) rfl;have p3:=hO3.cell (i:=3) (v:=.int .i64 o.srv.q) rfl;have p4:=hO3.cell (i:=4) (v:=.int .i64 o.srv.t) rfl;have p5:=hO3.cell (i:=5) (v:=.int .i64 o.pol) rfl;have p6:=hO3.cell (i:=6) (v:=.slice oa o.tasks.length oc) rfl;have p7:=hO3.cell (i:=7) (v:=.int .i64 o.at_) rfl;replace hor:=Lib.hid hor;replace hA3:=Lib.hid hA3;replace hO3:=Lib.hid hO3;replace hP3:=Lib.hid hP3;replace hR3:=Lib.hid hR3;replace hw3:=Lib.hid hw3;replace hv1:=Lib.hid hv1;replace gX3:=Lib.hid gX3;rw [hf] at hz;replace hf:=Lib.hid hf;have t1:o.at_ < 0:=hb;have t1b:decide (o.at_ < 0) = true:=decide_eq_true t1;replace hb:=Lib.hid hb;go_region_held3 (fun w' => w'.cell? ⟨w.heap.size + 1,0,none⟩ = some (.int .i64 o.kd)∧w'.cell? ⟨w.heap.size + 1,1,none⟩ = some (.int .i64 o.id)∧w'.cell? ⟨w.heap.size + 1,2,none⟩ = some (.int .i64 o.srv.k)∧w'.cell? ⟨w.heap.size + 1,3,none⟩ = some (.int .i64 o.srv.q)∧w'.cell? ⟨w.heap.size + 1,4,none⟩ = some (.int .i64 o.srv.t)∧w'.cell? ⟨w.heap.size + 1,5,none⟩ = some (.int .i64 o.pol)∧w'.cell? ⟨w.heap.size + 1,6,none⟩ = some (.slice oa o.tasks.length oc)∧w'.cell? ⟨w.heap.size + 1,7,none⟩ = some (.int .i64 o.at_)) (simp (maxDischargeDepth:=8) [go_sem, *])
  (first
   | (go_at_call 44;(with_reducible refine hor.out.mono ?_);rintro e wq ⟨rfl,hwq⟩;have hwq2:=hwq.symm;clear hwq;subst hwq2)
   | fail)
 go_upto_region 4 with fail
 go_region_held3 (fun w' => w'.cell? ⟨tb,0,none⟩ = some (.slice T1.an T1.N.length T1.cn)∧w'.cell? ⟨tb,1,none⟩ = some (.slice T1.ag T1.G.length T1.cg)∧w'.cell? ⟨tb,2,none⟩ = some (.int .i64 T1.last)∧w'.cell? ⟨tb,3,none⟩ = some (.int .i64 T1.now)) (simp (maxDischargeDepth:=8) [go_sem, *])
  (first
   | (go_at_call 45;(with_reducible refine (refused_any 7 _).mono ?_);rintro e w4 ⟨rfl,g4⟩;have gq:Gr w3 w4:=((Gr.refl w3).drew).trans g4;have hA4:=hA3.out.gr gq;have hP4:=hP3.out.gr gq;have hR4:=hR3.out.gr gq;have gW4:=gW3.trans gq;have v0:=hA4.o.cell (i:=0) (v:=.slice T1.an T1.N.length T1.cn) rfl;have v1:=hA4.o.cell (i:=1) (v:=.slice T1.ag T1.G.length T1.cg) rfl;have v2:=hA4.o.cell (i:=2) (v:=.int .i64 T1.last) rfl;have v3:=hA4.o.cell (i:=3) (v:=.int .i64 T1.now) rfl;have pf:=fun i => hP4.free i;have rf:=fun i => hR4.free i;have k0:=hP4.cell (i:=0) (v:=.slice none 0 0) rfl;have k1:=hP4.cell (i:=1) (v:=.slice none 0 0) rfl;have k2:=hP4.cell (i:=2) (v:=.int .i64 0) rfl;have k3:=hP4.cell (i:=3) (v:=.int .i64 0) rfl;have j0:=hR4.cell (i:=0) (v:=.int .i64 0) rfl;have j1:=hR4.cell (i:=1) (v:=.int .i64 0) rfl;replace hA4:=Lib.hid hA4;replace hP4:=Lib.hid hP4;replace hR4:=Lib.hid hR4)
   | fail)
 clear t0 t1 t2 t3 u0 u1 u2 u3 v0 v1 v2 v3 k0 k1 k2 k3 j0 j1 o0 o1 o2 o3 o4 o5 o6 o7 p0 p1 p2 p3 p4 p5 p6 p7;obtain ⟨wf,hwf⟩:∃ wf,wf = (((((w4.setCell ⟨w.heap.size + 1 + 1,0,none⟩ (.slice T1.an T1.N.length T1.cn)).setCell ⟨w.heap.size + 1 + 1,1,none⟩ (.slice T1.ag T1.G.length T1.cg)).setCell ⟨w.heap.size + 1 + 1,2,none⟩ (.int .i64 T1.last)).setCell ⟨w.heap.size + 1 + 1,3,none⟩ (.int .i64 T1.now)).setCell ⟨w.heap.size + 1 + 1 + 1,0,none⟩ (.int .i64 7)).setCell ⟨w.heap.size + 1 + 1 + 1,1,none⟩ (.int .i64 0):=⟨_,rfl⟩
 rw [← hwf];obtain ⟨hPf,hRf,hTf,gWf⟩:=res_out hA4.out hP4.out hR4.out gW4 hwf;have k0:=hPf.cell (i:=0) (v:=.slice T1.an T1.N.length T1.cn) rfl;have k1:=hPf.cell (i:=1) (v:=.slice T1.ag T1.G.length T1.cg) rfl;have k2:=hPf.cell (i:=2) (v:=.int .i64 T1.last) rfl;have k3:=hPf.cell (i:=3) (v:=.int .i64 T1.now) rfl;have j0:=hRf.cell (i:=0) (v:=.int .i64 7) rfl;have j1:=hRf.cell (i:=1) (v:=.int .i64 0) rfl;replace hwf:=Lib.hid hwf;go_wp2_with fail;refine bodyPost_ret (v:=.tuple #[.agg T1.row,.agg #[.int .i64 7,.int .i64 0]]) (by simp [results,Tryz.results13,go_sem,k0,k1,k2,k3,j0,j1]) rfl ?_;refine ⟨T1,?_,?_,hTf,gWf⟩
 ·rw [hV.out,apply_bad (.inr (.inl hb.out))]
 ·rw [hV.out,apply_bad (.inr (.inl hb.out))];exact hv1.out
set_option maxRecDepth 100000 in
set_option maxHeartbeats 12800000 in
theorem applyC_hi (T:TM) (w:World) (hT:TreeAt Any w T) (o:OrdV) (oa:Option Addr) (oc:Nat) (hkd:-9223372036854775808≤o.kd∧o.kd≤9223372036854775807) {f:Nat} (hf:ordF o.kd = some f) (hb:1099511627776 < o.at_) :
 Calls Tryz.prog 13 #[.agg T.row,.agg #[.int .i64 o.kd,.int .i64 o.id,.int .i64 o.srv.k,.int .i64 o.srv.q,.int .i64 o.srv.t,.int .i64 o.pol,.slice oa o.tasks.length oc,.int .i64 o.at_]] w (NewR (T.v.apply o) w):=by
 obtain ⟨V,hV⟩:∃ V,V = T.v.apply o:=⟨_,rfl⟩
 rw [← hV];obtain ⟨W,hW⟩:∃ W,W = (((w.alloc (.cells T.row 27)).alloc (.cells #[.int .i64 o.kd,.int .i64 o.id,.int .i64 o.srv.k,.int .i64 o.srv.q,.int .i64 o.srv.t,.int .i64 o.pol,.slice oa o.tasks.length oc,.int .i64 o.at_] 32)).alloc (.cells #[.slice none 0 0,.slice none 0 0,.int .i64 0,.int .i64 0] 27)).alloc (.cells #[.int .i64 0,.int .i64 0] 34):=⟨_,rfl⟩
 have gA:Gr w W:=by rw [hW];exact ((((Gr.refl w).alloc _).alloc _).alloc _).alloc _
 have hXW:Blk W w.heap.size T.row 27:=by rw [hW];exact (((Blk.new w _ _).alloc _).alloc _).alloc _
 have hOW:Blk W (w.heap.size + 1) #[.int .i64 o.kd,.int .i64 o.id,.int .i64 o.srv.k,.int .i64 o.srv.q,.int .i64 o.srv.t,.int .i64 o.pol,.slice oa o.tasks.length oc,.int .i64 o.at_] 32:=by
  rw [hW];have:=Blk.new (w.alloc (.cells T.row 27)) #[.int .i64 o.kd,.int .i64 o.id,.int .i64 o.srv.k,.int .i64 o.srv.q,.int .i64 o.srv.t,.int .i64 o.pol,.slice oa o.tasks.length oc,.int .i64 o.at_] 32;rw [World.size_alloc] at this;exact (this.alloc _).alloc _
 have hPW:Blk W (w.heap.size + 2) #[.slice none 0 0,.slice none 0 0,.int .i64 0,.int .i64 0] 27:=by
  rw [hW];have:=Blk.new ((w.alloc (.cells T.row 27)).alloc (.cells #[.int .i64 o.kd,.int .i64 o.id,.int .i64 o.srv.k,.int .i64 o.srv.q,.int .i64 o.srv.t,.int .i64 o.pol,.slice oa o.tasks.length oc,.int .i64 o.at_] 32)) #[.slice none 0 0,.slice none 0 0,.int .i64 0,.int .i64 0] 27;rw [World.size_alloc,World.size_alloc] at this;exact this.alloc _
 have hRW:Blk W (w.heap.size + 3) #[.int .i64 0,.int .i64 0] 34:=by
  rw [hW];have:=Blk.new (((w.alloc (.cells T.row 27)).alloc (.cells #[.int .i64 o.kd,.int .i64 o.id,.int .i64 o.srv.k,.int .i64 o.srv.q,.int .i64 o.srv.t,.int .i64 o.pol,.slice oa o.tasks.length oc,.int .i64 o.at_] 32)).alloc (.cells #[.slice none 0 0,.slice none 0 0,.int .i64 0,.int .i64 0] 27)) #[.int .i64 0,.int .i64 0] 34;rw [World.size_alloc,World.size_alloc,World.size_alloc] at this;exact this
 have hWz:W.heap.size = w.heap.size + 4:=by rw [hW];simp
 have hcp:=tcopied_any T W (hT.gr gA);have x0:=hXW.cell (i:=0) (v:=.slice T.an T.N.length T.cn) rfl;have x1:=hXW.cell (i:=1) (v:=.slice T.ag T.G.length T.cg) rfl;have x2:=hXW.cell (i:=2) (v:=.int .i64 T.last) rfl;have x3:=hXW.cell (i:=3) (v:=.int .i64 T.now) rfl;replace hW:=Lib.hid hW;replace hXW:=Lib.hid hXW;replace hOW:=Lib.hid hOW;replace hPW:=Lib.hid hPW;replace hRW:=Lib.hid hRW;replace hcp:=Lib.hid hcp;replace hT:=Lib.hid hT;replace hV:=Lib.hid hV;go_enter Tryz.func13,Tryz.ntmps13;go_upto_region 1 with fail
 rw [← hW.out];go_wp2_with fail;refine hcp.out.mono ?_;rintro e w1 ⟨T1,rfl,hT1v,hT1,g1⟩;obtain ⟨tb,htb⟩:∃ tb,tb = w1.heap.size:=⟨_,rfl⟩
 obtain ⟨w2,hw2⟩:∃ w2,w2 = w1.alloc (.cells T1.row 27):=⟨_,rfl⟩
 have gw2:Gr w1 w2:=by rw [hw2];exact (Gr.refl w1).alloc _
 have hX2:Blk w2 tb T1.row 27:=by rw [hw2,htb];exact Blk.new w1 _ _
 have hg1z:=g1.size;have hgw2z:=gw2.size;have hA2:OutAt (w.heap.size + 4) w2 tb T1:=⟨hX2,(hT1.base (by omega)).gr gw2,by omega,fun x hx ad ha ht e => by have:=(hT1.k x hx).1.1.lt ha ht;omega⟩
 have hO2:=(hOW.out.gr g1).gr gw2;have hP2:=(hPW.out.gr g1).gr gw2;have hR2:=(hRW.out.gr g1).gr gw2;have gW2:=(gA.trans g1).trans gw2;have hz2:w2.heap.size = tb + 1:=by rw [hw2,htb];simp
 have hq2:tb ≠ w.heap.size + 1 + 1:=by omega
 have hq3:tb ≠ w.heap.size + 1 + 1 + 1:=by omega
 have hq2s:w.heap.size + 1 + 1 ≠ tb:=by omega
 have hq3s:w.heap.size + 1 + 1 + 1 ≠ tb:=by omega
 have htz:w.heap.size + 4≤tb:=by omega
 replace hg1z:=Lib.hid hg1z;replace hgw2z:=Lib.hid hgw2z;replace hWz:=Lib.hid hWz;clear x0 x1 x2 x3;have t0:=hA2.o.cell (i:=0) (v:=.slice T1.an T1.N.length T1.cn) rfl;have t1:=hA2.o.cell (i:=1) (v:=.slice T1.ag T1.G.length T1.cg) rfl;have t2:=hA2.o.cell (i:=2) (v:=.int .i64 T1.last) rfl;have t3:=hA2.o.cell (i:=3) (v:=.int .i64 T1.now) rfl;have o0:=hO2.cell (i:=0) (v:=.int .i64 o.kd) rfl;have o1:=hO2.cell (i:=1) (v:=.int .i64 o.id) rfl;have o2:=hO2.cell (i:=2) (v:=.int .i64 o.srv.k) rfl;have o3:=hO2.cell (i:=3) (v:=.int .i64 o.srv.q) rfl;have o4:=hO2.cell (i:=4) (v:=.int .i64 o.srv.t) rfl;have o5:=hO2.cell (i:=5) (v:=.int .i64 o.pol) rfl;have o6:=hO2.cell (i:=6) (v:=.slice oa o.tasks.length oc) rfl;have o7:=hO2.cell (i:=7) (v:=.int .i64 o.at_) rfl;replace hT1:=Lib.hid hT1;replace hw2:=Lib.hid hw2;replace hX2:=Lib.hid hX2;replace hA2:=Lib.hid hA2;replace hO2:=Lib.hid hO2;replace hP2:=Lib.hid hP2;replace hR2:=Lib.hid hR2;replace htb:=Lib.hid htb;replace hz2:=Lib.hid hz2;go_upto_region 2 with fail
 rw [← htb.out,← hw2.out];obtain ⟨w3,hw3⟩:∃ w3,w3 = w2.drew.alloc (.map ordsE 4):=⟨_,rfl⟩
 have g3:Gr w2 w3:=by rw [hw3];exact ((Gr.refl w2).drew).alloc _
 obtain ⟨z,hz⟩:=run_look w3 w2.drew.heap.size (by rw [hw3];exact heap_alloc_new _ _) o.kd hkd;have hor:=orders_any w2.drew;rw [← hw3] at hor;obtain ⟨mb,hmb⟩:∃ mb,mb = w2.drew.heap.size:=⟨_,rfl⟩
 rw [← hmb] at hz hor;replace hmb:=Lib.hid hmb;have gX3:=((g1.trans gw2).trans g3)
 have hA3:=hA2.out.gr g3;have hO3:=hO2.out.gr g3;have hP3:=hP2.out.gr g3;have hR3:=hR2.out.gr g3;have gW3:=gW2.trans g3;have hv1:T1.v = T.v:=hT1v;have u0:=hA3.o.cell (i:=0) (v:=.slice T1.an T1.N.length T1.cn) rfl;have u1:=hA3.o.cell (i:=1) (v:=.slice T1.ag T1.G.length T1.cg) rfl;have u2:=hA3.o.cell (i:=2) (v:=.int .i64 T1.last) rfl;have u3:=hA3.o.cell (i:=3) (v:=.int .i64 T1.now) rfl;have p0:=hO3.cell (i:=0) (v:=.int .i64 o.kd) rfl;have p1:=hO3.cell (i:=1) (v:=.int .i64 o.id) rfl;have p2:=hO3.cell (i:=2) (v:=.int .i64 o.srv.k) rfl;have p3:=hO3.cell (i:=3) (v:=.int .i64 o.srv.q) rfl;have p4:=hO3.cell (i:=4) (v:=.int .i64 o.srv.t) rfl;have p5:=hO3.cell (i:=5) (v:=.int .i64 o.pol) rfl;have p6:=hO3.cell (i:=6) (v:=.slice oa o.tasks.length oc) rfl;have p7:=hO3.cell (i:=7) (v:=.int .i64 o.at_) rfl;replace hor:=Lib.hid hor;replace hA3:=Lib.hid hA3;replace hO3:=Lib.hid hO3;replace hP3:=Lib.hid hP3;replace hR3:=Lib.hid hR3;replace hw3:=Lib.hid hw3;replace hv1:=Lib.hid hv1;replace gX3:=Lib.hid gX3;rw [hf] at hz;replace hf:=Lib.hid hf;have t1:¬ o.at_ < 0:=by omega
 have t1b:decide (o.at_ < 0) = false:=decide_eq_false t1;have t2:1099511627776 < o.at_:=hb;have t2b:decide (1099511627776 < o.at_) = true:=decide_eq_true t2;replace hb:=Lib.hid hb;go_region_held3 (fun w' => w'.cell? ⟨w.heap.size + 1,0,none⟩ = some (.int .i64 o.kd)∧w'.cell? ⟨w.heap.size + 1,1,none⟩ = some (.int .i64 o.id)∧w'.cell? ⟨w.heap.size + 1,2,none⟩ = some (.int .i64 o.srv.k)∧w'.cell? ⟨w.heap.size + 1,3,none⟩ = some (.int .i64 o.srv.q)∧w'.cell? ⟨w.heap.size + 1,4,none⟩ = some (.int .i64 o.srv.t)∧w'.cell? ⟨w.heap.size + 1,5,none⟩ = some (.int .i64 o.pol)∧w'.cell? ⟨w.heap.size + 1,6,none⟩ = some (.slice oa o.tasks.length oc)∧w'.cell? ⟨w.heap.size + 1,7,none⟩ = some (.int .i64 o.at_)) (simp (maxDischargeDepth:=8) [go_sem, *])
  (first
   | (go_at_call 44;(with_reducible refine hor.out.mono ?_);rintro e wq ⟨rfl,hwq⟩;have hwq2:=hwq.symm;clear hwq;subst hwq2)
   | fail)
 go_upto_region 4 with fail
 go_region_held3 (fun w' => w'.cell? ⟨tb,0,none⟩ = some (.slice T1.an T1.N.length T1.cn)∧w'.cell? ⟨tb,1,none⟩ = some (.slice T1.ag T1.G.length T1.cg)∧w'.cell? ⟨tb,2,none⟩ = some (.int .i64 T1.last)∧w'.cell? ⟨tb,3,none⟩ = some (.int .i64 T1.now)) (simp (maxDischargeDepth:=8) [go_sem, *])
  (first
   | (go_at_call 45;(with_reducible refine (refused_any 7 _).mono ?_);rintro e w4 ⟨rfl,g4⟩;have gq:Gr w3 w4:=((Gr.refl w3).drew).trans g4;have hA4:=hA3.out.gr gq;have hP4:=hP3.out.gr gq;have hR4:=hR3.out.gr gq;have gW4:=gW3.trans gq;have v0:=hA4.o.cell (i:=0) (v:=.slice T1.an T1.N.length T1.cn) rfl;have v1:=hA4.o.cell (i:=1) (v:=.slice T1.ag T1.G.length T1.cg) rfl;have v2:=hA4.o.cell (i:=2) (v:=.int .i64 T1.last) rfl;have v3:=hA4.o.cell (i:=3) (v:=.int .i64 T1.now) rfl;have pf:=fun i => hP4.free i;have rf:=fun i => hR4.free i;have k0:=hP4.cell (i:=0) (v:=.slice none 0 0) rfl;have k1:=hP4.cell (i:=1) (v:=.slice none 0 0) rfl;have k2:=hP4.cell (i:=2) (v:=.int .i64 0) rfl;have k3:=hP4.cell (i:=3) (v:=.int .i64 0) rfl;have j0:=hR4.cell (i:=0) (v:=.int .i64 0) rfl;have j1:=hR4.cell (i:=1) (v:=.int .i64 0) rfl;replace hA4:=Lib.hid hA4;replace hP4:=Lib.hid hP4;replace hR4:=Lib.hid hR4)
   | fail)
 clear t0 t1 t2 t3 u0 u1 u2 u3 v0 v1 v2 v3 k0 k1 k2 k3 j0 j1 o0 o1 o2 o3 o4 o5 o6 o7 p0 p1 p2 p3 p4 p5 p6 p7;obtain ⟨wf,hwf⟩:∃ wf,wf = (((((w4.setCell ⟨w.heap.size + 1 + 1,0,none⟩ (.slice T1.an T1.N.length T1.cn)).setCell ⟨w.heap.size + 1 + 1,1,none⟩ (.slice T1.ag T1.G.length T1.cg)).setCell ⟨w.heap.size + 1 + 1,2,none⟩ (.int .i64 T1.last)).setCell ⟨w.heap.size + 1 + 1,3,none⟩ (.int .i64 T1.now)).setCell ⟨w.heap.size + 1 + 1 + 1,0,none⟩ (.int .i64 7)).setCell ⟨w.heap.size + 1 + 1 + 1,1,none⟩ (.int .i64 0):=⟨_,rfl⟩
 rw [← hwf];obtain ⟨hPf,hRf,hTf,gWf⟩:=res_out hA4.out hP4.out hR4.out gW4 hwf;have k0:=hPf.cell (i:=0) (v:=.slice T1.an T1.N.length T1.cn) rfl;have k1:=hPf.cell (i:=1) (v:=.slice T1.ag T1.G.length T1.cg) rfl;have k2:=hPf.cell (i:=2) (v:=.int .i64 T1.last) rfl;have k3:=hPf.cell (i:=3) (v:=.int .i64 T1.now) rfl;have j0:=hRf.cell (i:=0) (v:=.int .i64 7) rfl;have j1:=hRf.cell (i:=1) (v:=.int .i64 0) rfl;replace hwf:=Lib.hid hwf;go_wp2_with fail;refine bodyPost_ret (v:=.tuple #[.agg T1.row,.agg #[.int .i64 7,.int .i64 0]]) (by simp [results,Tryz.results13,go_sem,k0,k1,k2,k3,j0,j1]) rfl ?_;refine ⟨T1,?_,?_,hTf,gWf⟩
 ·rw [hV.out,apply_bad (.inr (.inr hb.out))]
 ·rw [hV.out,apply_bad (.inr (.inr hb.out))];exact hv1.out
set_option maxRecDepth 100000 in
set_option maxHeartbeats 12800000 in
theorem applyC_yes (T:TM) (w:World) (hT:TreeAt Any w T) (o:OrdV) (oa:Option Addr) (oc:Nat) (hkd:-9223372036854775808≤o.kd∧o.kd≤9223372036854775807) {f:Nat} (hcf:∀ (args:Array Value) (w:World),(callFunc f args).run Tryz.prog w = .ok (.enter f args) w) (hf:ordF o.kd = some f) (ha:0≤o.at_∧o.at_≤1099511627776) {r:TreeV→TreeV × Int × Int} (hr:T.v.apply o = r (T.v.tick o.at_)) (hdo:∀ (W0 w6:World) (T2:TM) (tb:Nat),W0.heap.size = w.heap.size + 4→Gr w W0→Gr W0 w6→OutAt (w.heap.size + 4) w6 tb T2→T2.v = T.v.tick o.at_→Calls Tryz.prog f #[.pointer (some ⟨tb,0,none⟩),.agg #[.int .i64 o.kd,.int .i64 o.id,.int .i64 o.srv.k,.int .i64 o.srv.q,.int .i64 o.srv.t,.int .i64 o.pol,.slice oa o.tasks.length oc,.int .i64 o.at_]] w6 (OrdP (w.heap.size + 4) W0 tb (r T2.v))) :
 Calls Tryz.prog 13 #[.agg T.row,.agg #[.int .i64 o.kd,.int .i64 o.id,.int .i64 o.srv.k,.int .i64 o.srv.q,.int .i64 o.srv.t,.int .i64 o.pol,.slice oa o.tasks.length oc,.int .i64 o.at_]] w (NewR (T.v.apply o) w):=by
 obtain ⟨ha1,ha2⟩:=ha;obtain ⟨V,hV⟩:∃ V,V = T.v.apply o:=⟨_,rfl⟩
 rw [← hV];obtain ⟨W,hW⟩:∃ W,W = (((w.alloc (.cells T.row 27)).alloc (.cells #[.int .i64 o.kd,.int .i64 o.id,.int .i64 o.srv.k,.int .i64 o.srv.q,.int .i64 o.srv.t,.int .i64 o.pol,.slice oa o.tasks.length oc,.int .i64 o.at_] 32)).alloc (.cells #[.slice none 0 0,.slice none 0 0,.int .i64 0,.int .i64 0] 27)).alloc (.cells #[.int .i64 0,.int .i64 0] 34):=⟨_,rfl⟩
 have gA:Gr w W:=by rw [hW];exact ((((Gr.refl w).alloc _).alloc _).alloc _).alloc _
 have hXW:Blk W w.heap.size T.row 27:=by rw [hW];exact (((Blk.new w _ _).alloc _).alloc _).alloc _
 have hOW:Blk W (w.heap.size + 1) #[.int .i64 o.kd,.int .i64 o.id,.int .i64 o.srv.k,.int .i64 o.srv.q,.int .i64 o.srv.t,.int .i64 o.pol,.slice oa o.tasks.length oc,.int .i64 o.at_] 32:=by
  rw [hW];have:=Blk.new (w.alloc (.cells T.row 27)) #[.int .i64 o.kd,.int .i64 o.id,.int .i64 o.srv.k,.int .i64 o.srv.q,.int .i64 o.srv.t,.int .i64 o.pol,.slice oa o.tasks.length oc,.int .i64 o.at_] 32;rw [World.size_alloc] at this;exact (this.alloc _).alloc _
 have hPW:Blk W (w.heap.size + 2) #[.slice none 0 0,.slice none 0 0,.int .i64 0,.int .i64 0] 27:=by
  rw [hW];have:=Blk.new ((w.alloc (.cells T.row 27)).alloc (.cells #[.int .i64 o.kd,.int .i64 o.id,.int .i64 o.srv.k,.int .i64 o.srv.q,.int .i64 o.srv.t,.int .i64 o.pol,.slice oa o.tasks.length oc,.int .i64 o.at_] 32)) #[.slice none 0 0,.slice none 0 0,.int .i64 0,.int .i64 0] 27;rw [World.size_alloc,World.size_alloc] at this;exact this.alloc _
 have hRW:Blk W (w.heap.size + 3) #[.int .i64 0,.int .i64 0] 34:=by
  rw [hW];have:=Blk.new (((w.alloc (.cells T.row 27)).alloc (.cells #[.int .i64 o.kd,.int .i64 o.id,.int .i64 o.srv.k,.int .i64 o.srv.q,.int .i64 o.srv.t,.int .i64 o.pol,.slice oa o.tasks.length oc,.int .i64 o.at_] 32)).alloc (.cells #[.slice none 0 0,.slice none 0 0,.int .i64 0,.int .i64 0] 27)) #[.int .i64 0,.int .i64 0] 34;rw [World.size_alloc,World.size_alloc,World.size_alloc] at this;exact this
 have hWz:W.heap.size = w.heap.size + 4:=by rw [hW];simp
 have hcp:=tcopied_any T W (hT.gr gA);have x0:=hXW.cell (i:=0) (v:=.slice T.an T.N.length T.cn) rfl;have x1:=hXW.cell (i:=1) (v:=.slice T.ag T.G.length T.cg) rfl;have x2:=hXW.cell (i:=2) (v:=.int .i64 T.last) rfl;have x3:=hXW.cell (i:=3) (v:=.int .i64 T.now) rfl;replace hW:=Lib.hid hW;replace hXW:=Lib.hid hXW;replace hOW:=Lib.hid hOW;replace hPW:=Lib.hid hPW;replace hRW:=Lib.hid hRW;replace hcp:=Lib.hid hcp;replace hT:=Lib.hid hT;replace hV:=Lib.hid hV;go_enter Tryz.func13,Tryz.ntmps13;go_upto_region 1 with fail
 rw [← hW.out];go_wp2_with fail;refine hcp.out.mono ?_;rintro e w1 ⟨T1,rfl,hT1v,hT1,g1⟩;obtain ⟨tb,htb⟩:∃ tb,tb = w1.heap.size:=⟨_,rfl⟩
 obtain ⟨w2,hw2⟩:∃ w2,w2 = w1.alloc (.cells T1.row 27):=⟨_,rfl⟩
 have gw2:Gr w1 w2:=by rw [hw2];exact (Gr.refl w1).alloc _
 have hX2:Blk w2 tb T1.row 27:=by rw [hw2,htb];exact Blk.new w1 _ _
 have hg1z:=g1.size;have hgw2z:=gw2.size;have hA2:OutAt (w.heap.size + 4) w2 tb T1:=⟨hX2,(hT1.base (by omega)).gr gw2,by omega,fun x hx ad ha ht e => by have:=(hT1.k x hx).1.1.lt ha ht;omega⟩
 have hO2:=(hOW.out.gr g1).gr gw2;have hP2:=(hPW.out.gr g1).gr gw2;have hR2:=(hRW.out.gr g1).gr gw2;have gW2:=(gA.trans g1).trans gw2;have hz2:w2.heap.size = tb + 1:=by rw [hw2,htb];simp
 have hq2:tb ≠ w.heap.size + 1 + 1:=by omega
 have hq3:tb ≠ w.heap.size + 1 + 1 + 1:=by omega
 have hq2s:w.heap.size + 1 + 1 ≠ tb:=by omega
 have hq3s:w.heap.size + 1 + 1 + 1 ≠ tb:=by omega
 have htz:w.heap.size + 4≤tb:=by omega
 replace hg1z:=Lib.hid hg1z;replace hgw2z:=Lib.hid hgw2z;replace hWz:=Lib.hid hWz;clear x0 x1 x2 x3;have t0:=hA2.o.cell (i:=0) (v:=.slice T1.an T1.N.length T1.cn) rfl;have t1:=hA2.o.cell (i:=1) (v:=.slice T1.ag T1.G.length T1.cg) rfl;have t2:=hA2.o.cell (i:=2) (v:=.int .i64 T1.last) rfl;have t3:=hA2.o.cell (i:=3) (v:=.int .i64 T1.now) rfl;have o0:=hO2.cell (i:=0) (v:=.int .i64 o.kd) rfl;have o1:=hO2.cell (i:=1) (v:=.int .i64 o.id) rfl;have o2:=hO2.cell (i:=2) (v:=.int .i64 o.srv.k) rfl;have o3:=hO2.cell (i:=3) (v:=.int .i64 o.srv.q) rfl;have o4:=hO2.cell (i:=4) (v:=.int .i64 o.srv.t) rfl;have o5:=hO2.cell (i:=5) (v:=.int .i64 o.pol) rfl;have o6:=hO2.cell (i:=6) (v:=.slice oa o.tasks.length oc) rfl;have o7:=hO2.cell (i:=7) (v:=.int .i64 o.at_) rfl;replace hT1:=Lib.hid hT1;replace hw2:=Lib.hid hw2;replace hX2:=Lib.hid hX2;replace hA2:=Lib.hid hA2;replace hO2:=Lib.hid hO2;replace hP2:=Lib.hid hP2;replace hR2:=Lib.hid hR2;replace htb:=Lib.hid htb;replace hz2:=Lib.hid hz2;go_upto_region 2 with fail
 rw [← htb.out,← hw2.out];obtain ⟨w3,hw3⟩:∃ w3,w3 = w2.drew.alloc (.map ordsE 4):=⟨_,rfl⟩
 have g3:Gr w2 w3:=by rw [hw3];exact ((Gr.refl w2).drew).alloc _
 obtain ⟨z,hz⟩:=run_look w3 w2.drew.heap.size (by rw [hw3];exact heap_alloc_new _ _) o.kd hkd;have hor:=orders_any w2.drew;rw [← hw3] at hor;obtain ⟨mb,hmb⟩:∃ mb,mb = w2.drew.heap.size:=⟨_,rfl⟩
 rw [← hmb] at hz hor;replace hmb:=Lib.hid hmb;have gX3:=((g1.trans gw2).trans g3)
 have hA3:=hA2.out.gr g3;have hO3:=hO2.out.gr g3;have hP3:=hP2.out.gr g3;have hR3:=hR2.out.gr g3;have gW3:=gW2.trans g3;have hv1:T1.v = T.v:=hT1v;have u0:=hA3.o.cell (i:=0) (v:=.slice T1.an T1.N.length T1.cn) rfl;have u1:=hA3.o.cell (i:=1) (v:=.slice T1.ag T1.G.length T1.cg) rfl;have u2:=hA3.o.cell (i:=2) (v:=.int .i64 T1.last) rfl;have u3:=hA3.o.cell (i:=3) (v:=.int .i64 T1.now) rfl;have p0:=hO3.cell (i:=0) (v:=.int .i64 o.kd) rfl;have p1:=hO3.cell (i:=1) (v:=.int .i64 o.id) rfl;have p2:=hO3.cell (i:=2) (v:=.int .i64 o.srv.k) rfl;have p3:=hO3.cell (i:=3) (v:=.int .i64 o.srv.q) rfl;have p4:=hO3.cell (i:=4) (v:=.int .i64 o.srv.t) rfl;have p5:=hO3.cell (i:=5) (v:=.int .i64 o.pol) rfl;have p6:=hO3.cell (i:=6) (v:=.slice oa o.tasks.length oc) rfl;have p7:=hO3.cell (i:=7) (v:=.int .i64 o.at_) rfl;replace hor:=Lib.hid hor;replace hA3:=Lib.hid hA3;replace hO3:=Lib.hid hO3;replace hP3:=Lib.hid hP3;replace hR3:=Lib.hid hR3;replace hw3:=Lib.hid hw3;replace hv1:=Lib.hid hv1;replace gX3:=Lib.hid gX3;rw [hf] at hz;dsimp only [Option.isSome] at hz;rw [hr] at hV;replace hf:=Lib.hid hf;replace hr:=Lib.hid hr;replace hcf:=Lib.hid hcf;replace hdo:=Lib.hid hdo;replace hV:=Lib.hid hV;have t1:¬ o.at_ < 0:=by omega
 have t1b:decide (o.at_ < 0) = false:=decide_eq_false t1;have t2:¬ 1099511627776 < o.at_:=by omega
 have t2b:decide (1099511627776 < o.at_) = false:=decide_eq_false t2;go_region_held3 (fun w' => w'.cell? ⟨w.heap.size + 1,0,none⟩ = some (.int .i64 o.kd)∧w'.cell? ⟨w.heap.size + 1,1,none⟩ = some (.int .i64 o.id)∧w'.cell? ⟨w.heap.size + 1,2,none⟩ = some (.int .i64 o.srv.k)∧w'.cell? ⟨w.heap.size + 1,3,none⟩ = some (.int .i64 o.srv.q)∧w'.cell? ⟨w.heap.size + 1,4,none⟩ = some (.int .i64 o.srv.t)∧w'.cell? ⟨w.heap.size + 1,5,none⟩ = some (.int .i64 o.pol)∧w'.cell? ⟨w.heap.size + 1,6,none⟩ = some (.slice oa o.tasks.length oc)∧w'.cell? ⟨w.heap.size + 1,7,none⟩ = some (.int .i64 o.at_)) (simp (maxDischargeDepth:=8) [go_sem, *])
  (first
   | (go_at_call 44;(with_reducible refine hor.out.mono ?_);rintro e wq ⟨rfl,hwq⟩;have hwq2:=hwq.symm;clear hwq;subst hwq2)
   | fail)
 have tf:=fun i => hA3.out.o.free i
 go_upto_region 6 with fail
 obtain ⟨mx,hmx⟩:∃ mx,mx = max T1.now o.at_:=⟨_,rfl⟩
 rw [← hmx];obtain ⟨w4,hw4⟩:∃ w4,w4 = w3.setCell ⟨tb,3,none⟩ (.int .i64 mx):=⟨_,rfl⟩
 rw [← hw4];obtain ⟨Tm,hTm⟩:∃ Tm:TM,Tm = ⟨T1.N,T1.an,T1.cn,T1.G,T1.ag,T1.cg,T1.last,mx⟩:=⟨_,rfl⟩
 have hA3t:=hA3.out.t;obtain ⟨gx4,hA4⟩:=out_box (T:=Tm) (j:=3) hA3.out.o (by rw [hTm];exact ⟨hA3t.n,hA3t.g,hA3t.k,hA3t.d,hA3t.dg,hA3t.f,hA3t.l1,hA3t.l2⟩) hA3.out.hB (by rw [hTm];exact hA3.out.b) hw4 (by rw [hTm];rfl);have hO4:Blk w4 (w.heap.size + 1) #[.int .i64 o.kd,.int .i64 o.id,.int .i64 o.srv.k,.int .i64 o.srv.q,.int .i64 o.srv.t,.int .i64 o.pol,.slice oa o.tasks.length oc,.int .i64 o.at_] 32:=by rw [hw4];exact hO3.out.other (by show w.heap.size + 1 ≠ tb;omega) _
 have gW4:Gr W w4:=by
  have h1:Gr W w3:=gX3.out;exact gx4.all h1 (fun y hy => by rw [List.mem_singleton.1 hy];have:=hWz.out;omega)
 clear t0 t1 t2 t3 u0 u1 u2 u3 o0 o1 o2 o3 o4 o5 o6 o7 p0 p1 p2 p3 p4 p5 p6 p7 tf hA3t;have c0:=hA4.o.cell (i:=0) (v:=.slice Tm.an Tm.N.length Tm.cn) rfl;have c1:=hA4.o.cell (i:=1) (v:=.slice Tm.ag Tm.G.length Tm.cg) rfl;have c2:=hA4.o.cell (i:=2) (v:=.int .i64 Tm.last) rfl;have c3:=hA4.o.cell (i:=3) (v:=.int .i64 Tm.now) rfl;have hlf:=left_any (w.heap.size + 4) Tm.ag Tm.cg Tm.G Tm.now tb w4 hA4.t.g hA4.t.l2 hA4.o.lt (owns_blk hA4.t.g hA4.o (by decide)) c3;replace hw4:=Lib.hid hw4;replace hA4:=Lib.hid hA4;replace hO4:=Lib.hid hO4;replace gx4:=Lib.hid gx4;replace hlf:=Lib.hid hlf;replace hmx:=Lib.hid hmx;replace hTm:=Lib.hid hTm;have tf:=fun i => hA4.out.o.free i
 go_wp2_with fail;refine hlf.out.mono ?_;rintro e w5 ⟨rfl,hG5,gx5⟩;obtain ⟨F,hF⟩:∃ F,F = Tm.G.filter (keepG Tm.now):=⟨_,rfl⟩
 rw [← hF] at hG5 ⊢;have hFl:F.length≤Tm.G.length:=by rw [hF];exact List.length_filter_le _ _
 have hins:∀ y,y ∈ (Tm.ag.map (·.block)).toList→(Value.slice Tm.ag Tm.G.length Tm.cg).ownBlock = some y:=fun y hy => by
  cases hta:Tm.ag with
  | none => rw [hta] at hy;cases hy
  | some q => rw [hta] at hy;simp at hy;rw [hy];rfl
 have hA4t:=hA4.out.t;have hW5:OwnT (w.heap.size + 4) w5 ⟨Tm.N,Tm.an,Tm.cn,F,Tm.ag,Tm.cg,Tm.last,Tm.now⟩:=hA4t.ghosts gx5 (fun k hk hm => owns_apart hA4t.n hA4t.g (by decide) hk (hins k hm)) (fun x hx ad ha ht hm => hA4t.dg x hx ad ha ht (hins _ hm)) _ _ hG5 (fun x hx ad ha ht => by rw [ownB_len _ F.length Tm.G.length];exact hA4t.dg x hx ad ha ht) (Nat.le_trans hFl hA4t.l2);have hX5:=hA4.out.o.grx gx5 (fun hm => owns_blk hA4t.g hA4.out.o (by decide) (hins _ hm));have hO5:=hO4.out.grx gx5 (fun hm => owns_blk hA4t.g hO4.out (by decide) (hins _ hm));have gW5:Gr W w5:=gx5.all gW4 (fun y hy => by have:=(owns_lt hA4t.g y (hins y hy)).2;have:=hWz.out;omega);clear c0 c1 c2 c3 tf;have tf:=fun i => hX5.free i
 have c0:=hX5.cell (i:=0) (v:=.slice Tm.an Tm.N.length Tm.cn) rfl;have c1:=hX5.cell (i:=1) (v:=.slice Tm.ag Tm.G.length Tm.cg) rfl;have c2:=hX5.cell (i:=2) (v:=.int .i64 Tm.last) rfl;have c3:=hX5.cell (i:=3) (v:=.int .i64 Tm.now) rfl;replace hX5:=Lib.hid hX5;replace hO5:=Lib.hid hO5;replace hW5:=Lib.hid hW5;replace hG5:=Lib.hid hG5;replace gx5:=Lib.hid gx5;replace hF:=Lib.hid hF;go_upto_region 7 with fail
 obtain ⟨w6,hw6⟩:∃ w6,w6 = w5.setCell ⟨tb,1,none⟩ (.slice Tm.ag F.length Tm.cg):=⟨_,rfl⟩
 rw [← hw6];obtain ⟨T2,hT2⟩:∃ T2:TM,T2 = ⟨Tm.N,Tm.an,Tm.cn,F,Tm.ag,Tm.cg,Tm.last,Tm.now⟩:=⟨_,rfl⟩
 obtain ⟨gx6,hA6⟩:=out_box (T:=T2) (j:=1) hX5.out (by rw [hT2];exact hW5.out) hA4.out.hB (by rw [hT2];exact hA4.out.b) hw6 (by rw [hT2];rfl);have hO6:Blk w6 (w.heap.size + 1) #[.int .i64 o.kd,.int .i64 o.id,.int .i64 o.srv.k,.int .i64 o.srv.q,.int .i64 o.srv.t,.int .i64 o.pol,.slice oa o.tasks.length oc,.int .i64 o.at_] 32:=by rw [hw6];exact hO5.out.other (by show w.heap.size + 1 ≠ tb;omega) _
 have gW6:Gr W w6:=gx6.all gW5 (fun y hy => by rw [List.mem_singleton.1 hy];have:=hWz.out;omega);have hT2v:T2.v = T.v.tick o.at_:=by
  rw [← hv1.out];exact tm_tick (T1:=T1) (by rw [hT2,hTm.out]) (by rw [hT2,hTm.out]) (by rw [hT2,hTm.out];exact hmx.out) (by rw [hT2];show F = _;rw [hF.out,hTm.out];show T1.G.filter (keepG mx) = _;rw [hmx.out])
 have hc:=hdo.out W w6 T2 tb hWz.out gA gW6 hA6 hT2v;clear tf c0 c1 c2 c3;have o0:=hO6.cell (i:=0) (v:=.int .i64 o.kd) rfl;have o1:=hO6.cell (i:=1) (v:=.int .i64 o.id) rfl;have o2:=hO6.cell (i:=2) (v:=.int .i64 o.srv.k) rfl;have o3:=hO6.cell (i:=3) (v:=.int .i64 o.srv.q) rfl;have o4:=hO6.cell (i:=4) (v:=.int .i64 o.srv.t) rfl;have o5:=hO6.cell (i:=5) (v:=.int .i64 o.pol) rfl;have o6:=hO6.cell (i:=6) (v:=.slice oa o.tasks.length oc) rfl;have o7:=hO6.cell (i:=7) (v:=.int .i64 o.at_) rfl;replace hw6:=Lib.hid hw6;replace hA6:=Lib.hid hA6;replace hO6:=Lib.hid hO6;replace gx6:=Lib.hid gx6;replace hT2:=Lib.hid hT2;replace hT2v:=Lib.hid hT2v;replace hc:=Lib.hid hc;go_wp2_with fail;rw [hcf.out,Oper.upon_enter];refine hc.out.mono ?_;rintro e w7 ⟨rfl,T3,hA7,hT3v,gW7⟩;have hP7:=hPW.out.gr gW7;have hR7:=hRW.out.gr gW7;have hRv:=hV.out;rw [← hT2v.out] at hRv;rw [← hRv] at hT3v ⊢;obtain ⟨V1,vc,vi⟩:=V;dsimp only at hT3v ⊢;have gz7:Gr w7 (w7.alloc (.cells #[.int .i64 vc,.int .i64 vi] 34)):=(Gr.refl w7).alloc _;obtain ⟨w8,hw8⟩:∃ w8,w8 = w7.alloc (.cells #[.int .i64 vc,.int .i64 vi] 34):=⟨_,rfl⟩
 rw [← hw8] at gz7;have hS8:Blk w8 w7.heap.size #[.int .i64 vc,.int .i64 vi] 34:=by rw [hw8];exact Blk.new w7 _ _
 have hA8:=hA7.gr gz7;have hP8:=hP7.gr gz7;have hR8:=hR7.gr gz7;have gW8:=gA.trans (gW7.trans gz7);have hqs:w.heap.size + 4≤w7.heap.size:=by have:=gW7.size;have:=hWz.out;omega
 obtain ⟨sb,hsb⟩:∃ sb,sb = w7.heap.size:=⟨_,rfl⟩
 rw [← hsb] at hqs hS8;have hs2:sb ≠ w.heap.size + 1 + 1:=by omega
 have hs3:sb ≠ w.heap.size + 1 + 1 + 1:=by omega
 have hs2s:w.heap.size + 1 + 1 ≠ sb:=by omega
 have hs3s:w.heap.size + 1 + 1 + 1 ≠ sb:=by omega
 clear o0 o1 o2 o3 o4 o5 o6 o7;replace hA7:=Lib.hid hA7;replace hP7:=Lib.hid hP7;replace hR7:=Lib.hid hR7;replace hw8:=Lib.hid hw8;replace hsb:=Lib.hid hsb;replace gz7:=Lib.hid gz7;replace hRv:=Lib.hid hRv;replace hT3v:=Lib.hid hT3v;have v0:=hA8.o.cell (i:=0) (v:=.slice T3.an T3.N.length T3.cn) rfl;have v1:=hA8.o.cell (i:=1) (v:=.slice T3.ag T3.G.length T3.cg) rfl;have v2:=hA8.o.cell (i:=2) (v:=.int .i64 T3.last) rfl;have v3:=hA8.o.cell (i:=3) (v:=.int .i64 T3.now) rfl;have pf:=fun i => hP8.free i
 have rf:=fun i => hR8.free i
 have k0:=hP8.cell (i:=0) (v:=.slice none 0 0) rfl;have k1:=hP8.cell (i:=1) (v:=.slice none 0 0) rfl;have k2:=hP8.cell (i:=2) (v:=.int .i64 0) rfl;have k3:=hP8.cell (i:=3) (v:=.int .i64 0) rfl;have j0:=hR8.cell (i:=0) (v:=.int .i64 0) rfl;have j1:=hR8.cell (i:=1) (v:=.int .i64 0) rfl;have s0:=hS8.cell (i:=0) (v:=.int .i64 vc) rfl;have s1:=hS8.cell (i:=1) (v:=.int .i64 vi) rfl;replace hA8:=Lib.hid hA8;replace hP8:=Lib.hid hP8;replace hR8:=Lib.hid hR8;replace hS8:=Lib.hid hS8;go_upto_region 8 with fail
 rw [← hsb.out,← hw8.out];go_region_held3 (fun w' => w'.cell? ⟨tb,0,none⟩ = some (.slice T3.an T3.N.length T3.cn)∧w'.cell? ⟨tb,1,none⟩ = some (.slice T3.ag T3.G.length T3.cg)∧w'.cell? ⟨tb,2,none⟩ = some (.int .i64 T3.last)∧w'.cell? ⟨tb,3,none⟩ = some (.int .i64 T3.now)∧w'.cell? ⟨sb,0,none⟩ = some (.int .i64 vc)∧w'.cell? ⟨sb,1,none⟩ = some (.int .i64 vi)) (simp (maxDischargeDepth:=8) [go_sem, *])
  (first | fail)
 clear v0 v1 v2 v3 k0 k1 k2 k3 j0 j1 s0 s1;obtain ⟨wf,hwf⟩:∃ wf,wf = (((((w8.setCell ⟨w.heap.size + 1 + 1,0,none⟩ (.slice T3.an T3.N.length T3.cn)).setCell ⟨w.heap.size + 1 + 1,1,none⟩ (.slice T3.ag T3.G.length T3.cg)).setCell ⟨w.heap.size + 1 + 1,2,none⟩ (.int .i64 T3.last)).setCell ⟨w.heap.size + 1 + 1,3,none⟩ (.int .i64 T3.now)).setCell ⟨w.heap.size + 1 + 1 + 1,0,none⟩ (.int .i64 vc)).setCell ⟨w.heap.size + 1 + 1 + 1,1,none⟩ (.int .i64 vi):=⟨_,rfl⟩
 rw [← hwf];obtain ⟨hPf,hRf,hTf,gWf⟩:=res_out hA8.out hP8.out hR8.out gW8 hwf;have hPd:=hPf.drew;have hRd:=hRf.drew;have k0:=hPd.cell (i:=0) (v:=.slice T3.an T3.N.length T3.cn) rfl;have k1:=hPd.cell (i:=1) (v:=.slice T3.ag T3.G.length T3.cg) rfl;have k2:=hPd.cell (i:=2) (v:=.int .i64 T3.last) rfl;have k3:=hPd.cell (i:=3) (v:=.int .i64 T3.now) rfl;have j0:=hRd.cell (i:=0) (v:=.int .i64 vc) rfl;have j1:=hRd.cell (i:=1) (v:=.int .i64 vi) rfl;replace hwf:=Lib.hid hwf;go_wp2_with fail;refine bodyPost_ret (v:=.tuple #[.agg T3.row,.agg #[.int .i64 vc,.int .i64 vi]]) (by simp [results,Tryz.results13,go_sem,k0,k1,k2,k3,j0,j1]) rfl ?_;exact ⟨T3,rfl,hT3v.out,hTf.gr ((Gr.refl _).drew),gWf.drew⟩
set_option maxRecDepth 100000 in
set_option maxHeartbeats 12800000 in
theorem apply_any {G:List Nat} {E:Nat→Addr} (T:TM) (w:World) (hE:EAt G E w) (i0:9 ∈ G) (i1:11 ∈ G) (i3:6 ∈ G) (i4:10 ∈ G) (hT:TreeAt Any w T) {n:Nat} (hS:Sane n T.v) (hn:n < 1000000) (o:OrdV) (oa:Option Addr) (oc:Nat) (hkd:-9223372036854775808≤o.kd∧o.kd≤9223372036854775807) (hta:RecsAt 4 Tsk.cells w oa o.tasks) (hoc:oa = none→oc = 0) (hom:o.tasks.length * 32≤140737488351232) :
 Calls Tryz.prog 13 #[.agg T.row,.agg #[.int .i64 o.kd,.int .i64 o.id,.int .i64 o.srv.k,.int .i64 o.srv.q,.int .i64 o.srv.t,.int .i64 o.pol,.slice oa o.tasks.length oc,.int .i64 o.at_]] w (NewR (T.v.apply o) w):=by
 by_cases hlo:o.at_ < 0
 ·cases hf:ordF o.kd with
  | none => exact applyC_no T w hT o oa oc hkd hf
  | some f => exact applyC_lo T w hT o oa oc hkd hf hlo
 by_cases hhi:1099511627776 < o.at_
 ·cases hf:ordF o.kd with
  | none => exact applyC_no T w hT o oa oc hkd hf
  | some f => exact applyC_hi T w hT o oa oc hkd hf hhi
 have ha:0≤o.at_∧o.at_≤1099511627776:=by omega
 have hfacts:∀ T2:TM,T2.v = T.v.tick o.at_→Srt T2.N∧Low T2.N∧(∀ x ∈ T2.N,x.e.id≤T2.last)∧0≤T2.last∧T2.last≤1000000∧0≤T2.now∧T2.now≤1099511627776∧T2.G.length < 1000000:=fun T2 h2 => sane_in (by rw [h2];exact hS.tick ha.2) hn
 by_cases h1:o.kd = 1
 ·refine applyC_yes T w hT o oa oc hkd (f:=93) (r:=fun t => t.create o) (fun args w => by kernel_rfl) (by unfold ordF;rw [if_pos h1]) ha (by unfold TreeV.apply;rw [if_neg (by omega)];dsimp only;rw [if_pos h1]) (fun W0 w6 T2 tb hz g0 g6 hA h2 => ?_);obtain ⟨f1,f2,f3,f4,f5,f6,f7,f8⟩:=hfacts T2 h2;cases hl:o.srv.leg with
  | false => exact create_no W0 (hE.gr g0) i0 T2 w6 tb _ hA g6 o oa oc hl
  | true => exact create_leg W0 (hE.gr g0) i0 i1 i3 T2 w6 tb _ hA (by omega) g6 f1 f2 f6 f7 f4 f5 f3 o oa oc hl
 by_cases h2:o.kd = 2
 ·refine applyC_yes T w hT o oa oc hkd (f:=94) (r:=fun t => t.resize o) (fun args w => by kernel_rfl) (by unfold ordF;rw [if_neg h1,if_pos h2]) ha (by unfold TreeV.apply;rw [if_neg (by omega)];dsimp only;rw [if_neg h1,if_pos h2]) (fun W0 w6 T2 tb hz g0 g6 hA h2 => ?_);obtain ⟨f1,f2,f3,f4,f5,f6,f7,f8⟩:=hfacts T2 h2;cases hl:o.srv.leg with
  | false => exact resize_no W0 (hE.gr g0) i0 T2 w6 tb _ hA g6 o oa oc hl
  | true => exact resize_leg W0 (hE.gr g0) i0 i1 i3 T2 w6 tb _ hA (by omega) g6 f1 f6 f7 f8 o oa oc hl
 by_cases h3:o.kd = 3
 ·refine applyC_yes T w hT o oa oc hkd (f:=95) (r:=fun t => t.remove o) (fun args w => by kernel_rfl) (by unfold ordF;rw [if_neg h1,if_neg h2,if_pos h3]) ha (by unfold TreeV.apply;rw [if_neg (by omega)];dsimp only;rw [if_neg h1,if_neg h2,if_pos h3]) (fun W0 w6 T2 tb hz g0 g6 hA h2 => ?_);obtain ⟨f1,f2,f3,f4,f5,f6,f7,f8⟩:=hfacts T2 h2;exact remove_any W0 (hE.gr g0) i0 i1 i3 T2 w6 tb _ hA (by omega) g6 f1 f6 f7 f8 o oa oc
 by_cases h4:o.kd = 4
 ·refine applyC_yes T w hT o oa oc hkd (f:=96) (r:=fun t => t.bind o) (fun args w => by kernel_rfl) (by unfold ordF;rw [if_neg h1,if_neg h2,if_neg h3,if_pos h4]) ha (by unfold TreeV.apply;rw [if_neg (by omega)];dsimp only;rw [if_neg h1,if_neg h2,if_neg h3]) (fun W0 w6 T2 tb hz g0 g6 hA h2 => ?_);obtain ⟨f1,f2,f3,f4,f5,f6,f7,f8⟩:=hfacts T2 h2;have hta6:RecsAt 4 Tsk.cells w6 oa o.tasks:=(RecsIn.grx (K:=Any) ⟨hta,fun _ _ _ => trivial⟩ ((g0.trans g6).x []) (fun _ h => by cases h)).1;cases hl:guestOk o.pol o.tasks with
  | false => exact bind_no W0 (hE.gr g0) i4 T2 w6 tb _ hA g6 f1 o oa oc hta6 hom hl
  | true => exact bind_ok W0 (hE.gr g0) i0 i1 i4 T2 w6 tb _ hA (by omega) g6 f1 o oa oc hta6 hoc (fun ad ha2 ht => by have:=RecsAt.lt hta ha2 ht;omega) hom hl
 exact applyC_no T w hT o oa oc hkd (by unfold ordF;rw [if_neg h1,if_neg h2,if_neg h3,if_neg h4])
end Go.Proofs.YtdfelohjdkcpkaaGreatDoor
