/- tree.Apply. Printed by gen_t27.py. -/
import Derived.Test.YtdfelohjdkcpkaaGreatDoorKK18
set_option maxRecDepth 100000
set_option maxHeartbeats 12800000
namespace Go.Proofs.YtdfelohjdkcpkaaGreatDoor
open Go.RowKit
theorem LN {n:Nat} {T:TM} (h:Bq n T.v) (hn:n < 1000000):EF T.N∧LF T.N∧(∀ x ∈ T.N,x.e.id≤T.last)∧0≤T.last∧T.last≤1000000∧0≤T.now∧T.now≤1099511627776∧T.G.length < 1000000:=by
 have hm:∀ x ∈ T.N,x.e ∈ T.v.nodes:=fun x hx => List.mem_map.2 ⟨x,hx,rfl⟩
 have h1:=h.l1;refine ⟨fun i j x y hi hj hij => ?_,fun x hx => ?_,fun x hx => (h.lw _ (hm x hx)).2.2,h.l0,?_,h.n0,h.n1,?_⟩
 ·have hs:=List.pairwise_iff_getElem.1 h.st;obtain ⟨hi2,hi3⟩:=List.getElem?_eq_some_iff.1 hi;obtain ⟨hj2,hj3⟩:=List.getElem?_eq_some_iff.1 hj;have:=hs i j (by simpa using hi2) (by simpa using hj2) hij;simp only [List.getElem_map,hi3,hj3] at this;exact this
 ·have:=h.lw _ (hm x hx);dsimp only at h1 this;omega
 ·dsimp only at h1;omega
 ·have:=h.gl;dsimp only at this;omega
def DA (r:Ab × Int × Int) (w:World) (e:Ending) (w':World):Prop:=∃ T':TM,e = .returned (.tuple #[.agg T'.row,.agg #[.int .i64 r.2.1,.int .i64 r.2.2]])∧T'.v = r.1∧A5 w.heap.size w' T'∧Gr w w'
theorem Db {t:Ab} {o:A8} (h:Ej o.kd = none ∨ o.at_ < 0 ∨ 1099511627776 < o.at_):t.apply o = (t,7,0):=by
 unfold Ab.apply;rw [if_pos];rcases h with h | h | h
 ·unfold Ej at h;by_cases h1:o.kd = 1
  ·rw [if_pos h1] at h;cases h
  by_cases h2:o.kd = 2
  ·rw [if_neg h1,if_pos h2] at h;cases h
  by_cases h3:o.kd = 3
  ·rw [if_neg h1,if_neg h2,if_pos h3] at h;cases h
  by_cases h4:o.kd = 4
  ·rw [if_neg h1,if_neg h2,if_neg h3,if_pos h4] at h;cases h
  omega
 ·exact .inr (.inr (.inl h))
 ·exact .inr (.inr (.inr h))
theorem OK {T1 T2:TM} {a:Int} (hN:T2.N = T1.N) (hl:T2.last = T1.last) (hn:T2.now = max T1.now a) (hG:T2.G = T1.G.filter (CA (max T1.now a))):T2.v = T1.v.tick a:=by
 show (⟨T2.N.map (·.e),T2.G,T2.last,T2.now⟩:Ab) = ⟨T1.N.map (·.e),T1.G.filter _,T1.last,max T1.now a⟩
 rw [hN,hl,hn,hG]
theorem J9 (a:Option Addr) (n m c:Nat):(Value.slice a n c).ownBlock = (Value.slice a m c).ownBlock:=by
 rcases a with _ | ⟨b,o,s⟩
 ·rfl
 ·rfl
theorem GM {w w4 wf:World} {tb:Nat} {T:TM} {c i:Int} (hA:Bn (w.heap.size + 4) w4 tb T) (hP:Ag w4 (w.heap.size + 1 + 1) #[.slice none 0 0,.slice none 0 0,.int .i64 0,.int .i64 0] 27) (hR:Ag w4 (w.heap.size + 1 + 1 + 1) #[.int .i64 0,.int .i64 0] 34) (g:Gr w w4) (hw:wf = (((((w4.setCell ⟨w.heap.size + 1 + 1,0,none⟩ (.slice T.an T.N.length T.cn)).setCell ⟨w.heap.size + 1 + 1,1,none⟩ (.slice T.ag T.G.length T.cg)).setCell ⟨w.heap.size + 1 + 1,2,none⟩ (.int .i64 T.last)).setCell ⟨w.heap.size + 1 + 1,3,none⟩ (.int .i64 T.now)).setCell ⟨w.heap.size + 1 + 1 + 1,0,none⟩ (.int .i64 c)).setCell ⟨w.heap.size + 1 + 1 + 1,1,none⟩ (.int .i64 i)) :
 Ag wf (w.heap.size + 1 + 1) T.row 27∧Ag wf (w.heap.size + 1 + 1 + 1) #[.int .i64 c,.int .i64 i] 34∧A5 w.heap.size wf T∧Gr w wf:=by
 have gx:Aw [w.heap.size + 1 + 1,w.heap.size + 1 + 1 + 1] w4 wf:=by
  rw [hw];exact ((((((Aw.refl _ _).set (.inl (by simp)) _).set (.inl (by simp)) _).set (.inl (by simp)) _).set (.inl (by simp)) _).set (.inl (by simp)) _).set (.inl (by simp)) _
 refine ⟨?_,?_,?_,gx.all g (fun y hy => by simp at hy;omega)⟩
 ·rw [hw];exact (((((hP.set 0 (.slice T.an T.N.length T.cn)).set 1 (.slice T.ag T.G.length T.cg)).set 2 (.int .i64 T.last)).set 3 (.int .i64 T.now)).other (by show w.heap.size + 1 + 1 ≠ w.heap.size + 1 + 1 + 1;omega) _).other (by show w.heap.size + 1 + 1 ≠ w.heap.size + 1 + 1 + 1;omega) _
 ·rw [hw];have h1:w.heap.size + 1 + 1 + 1 ≠ w.heap.size + 1 + 1:=by omega
  exact (((((hR.other (a:=⟨w.heap.size + 1 + 1,0,none⟩) h1 _).other (a:=⟨w.heap.size + 1 + 1,1,none⟩) h1 _).other (a:=⟨w.heap.size + 1 + 1,2,none⟩) h1 _).other (a:=⟨w.heap.size + 1 + 1,3,none⟩) h1 _).set 0 (.int .i64 c)).set 1 (.int .i64 i)
 ·exact (hA.t.grx gx (fun y hy => by simp at hy;omega)).base (by omega)
theorem F9 (T:TM) (w:World) (hT:Av Any w T) (o:A8) (oa:Option Addr) (oc:Nat) (hkd:-9223372036854775808≤o.kd∧o.kd≤9223372036854775807) (hb:Ej o.kd = none) :
 Calls Tryz.prog 13 #[.agg T.row,.agg #[.int .i64 o.kd,.int .i64 o.id,.int .i64 o.srv.k,.int .i64 o.srv.q,.int .i64 o.srv.t,.int .i64 o.pol,.slice oa o.tasks.length oc,.int .i64 o.at_]] w (DA (T.v.apply o) w):=by
 obtain ⟨V,hV⟩:=zE (T.v.apply o);rw [← hV];obtain ⟨W,hW⟩:=zE ((((w.alloc (.cells T.row 27)).alloc (.cells #[.int .i64 o.kd,.int .i64 o.id,.int .i64 o.srv.k,.int .i64 o.srv.q,.int .i64 o.srv.t,.int .i64 o.pol,.slice oa o.tasks.length oc,.int .i64 o.at_] 32)).alloc (.cells #[.slice none 0 0,.slice none 0 0,.int .i64 0,.int .i64 0] 27)).alloc (.cells #[.int .i64 0,.int .i64 0] 34));have gA:Gr w W:=by rw [hW];exact ((((Gr.refl w).alloc _).alloc _).alloc _).alloc _
 have hXW:Ag W w.heap.size T.row 27:=by rw [hW];exact (((Ag.new w _ _).alloc _).alloc _).alloc _
 have hOW:Ag W (w.heap.size + 1) #[.int .i64 o.kd,.int .i64 o.id,.int .i64 o.srv.k,.int .i64 o.srv.q,.int .i64 o.srv.t,.int .i64 o.pol,.slice oa o.tasks.length oc,.int .i64 o.at_] 32:=by
  rw [hW];exact (Ag.n1.alloc _).alloc _
 have hPW:Ag W (w.heap.size + 2) #[.slice none 0 0,.slice none 0 0,.int .i64 0,.int .i64 0] 27:=by
  rw [hW];exact Ag.n2.alloc _
 have hRW:Ag W (w.heap.size + 3) #[.int .i64 0,.int .i64 0] 34:=by
  rw [hW];exact Ag.n3
 have hWz:W.heap.size = w.heap.size + 4:=by rw [hW];simp
 have hcp:=Dr T W (hT.gr gA);obtain ⟨x0,x1,x2,x3⟩:=hXW.c4;refine Br ?_ hW hXW hOW hPW hRW hcp hT hV;clear hW hXW hOW hPW hRW hcp hT hV;intro hW hXW hOW hPW hRW hcp hT hV;go_enter Tryz.func13,Tryz.ntmps13;go_upto_region 1 with fail
 rw [← hW.out];go_wp2_with fail;refine hcp.out.mono ?_;rintro e w1 ⟨T1,rfl,hT1v,hT1,g1⟩;obtain ⟨tb,htb⟩:=zE w1.heap.size;obtain ⟨w2,hw2⟩:=zE (w1.alloc (.cells T1.row 27));have gw2:Gr w1 w2:=by rw [hw2];exact (Gr.refl w1).alloc _
 have hX2:Ag w2 tb T1.row 27:=by rw [hw2,htb];exact Ag.new w1 _ _
 have hg1z:=g1.size;have hgw2z:=gw2.size;have hA2:Bn (w.heap.size + 4) w2 tb T1:=⟨hX2,(hT1.base (by omega)).gr gw2,by omega,fun x hx ad ha ht e => by have:=(hT1.k x hx).1.1.lt ha ht;omega⟩
 have hO2:=(hOW.out.gr g1).gr gw2;have hP2:=(hPW.out.gr g1).gr gw2;have hR2:=(hRW.out.gr g1).gr gw2;have gW2:=(gA.trans g1).trans gw2;have hz2:w2.heap.size = tb + 1:=by rw [hw2,htb];simp
 have hq2:tb ≠ w.heap.size + 1 + 1:=by omega
 have hq3:tb ≠ w.heap.size + 1 + 1 + 1:=by omega
 have hq2s:w.heap.size + 1 + 1 ≠ tb:=by omega
 have hq3s:w.heap.size + 1 + 1 + 1 ≠ tb:=by omega
 have htz:w.heap.size + 4≤tb:=by omega
 refine AZ ?_ hg1z hgw2z hWz;clear hg1z hgw2z hWz;intro hg1z hgw2z hWz;clear x0 x1 x2 x3;obtain ⟨t0,t1,t2,t3⟩:=hA2.o.c4;obtain ⟨o0,o1,o2,o3,o4,o5,o6,o7⟩:=hO2.c8;refine Br ?_ hT1 hw2 hX2 hA2 hO2 hP2 hR2 htb;clear hT1 hw2 hX2 hA2 hO2 hP2 hR2 htb;intro hT1 hw2 hX2 hA2 hO2 hP2 hR2 htb;replace hz2:=zH hz2;go_upto_region 2 with fail
 rw [← htb.out,← hw2.out];obtain ⟨w3,hw3⟩:=zE (w2.drew.alloc (.map ordsE 4));have g3:Gr w2 w3:=by rw [hw3];exact ((Gr.refl w2).drew).alloc _
 obtain ⟨z,hz⟩:=Fu w3 w2.drew.heap.size (by rw [hw3];exact heap_alloc_new _ _) o.kd hkd;have hor:=D6 w2.drew;rw [← hw3] at hor;obtain ⟨mb,hmb⟩:=zE w2.drew.heap.size;rw [← hmb] at hz hor;replace hmb:=zH hmb;have gX3:=((g1.trans gw2).trans g3)
 have hA3:=hA2.out.gr g3;have hO3:=hO2.out.gr g3;have hP3:=hP2.out.gr g3;have hR3:=hR2.out.gr g3;have gW3:=gW2.trans g3;have hv1:T1.v = T.v:=hT1v;obtain ⟨u0,u1,u2,u3⟩:=hA3.o.c4;obtain ⟨p0,p1,p2,p3,p4,p5,p6,p7⟩:=hO3.c8;refine Br ?_ hor hA3 hO3 hP3 hR3 hw3 hv1 gX3;clear hor hA3 hO3 hP3 hR3 hw3 hv1 gX3;intro hor hA3 hO3 hP3 hR3 hw3 hv1 gX3;rw [hb] at hz;replace hb:=zH hb;go_region_held3 (fun w' => w'.cell? ⟨w.heap.size + 1,0,none⟩ = some (.int .i64 o.kd)∧w'.cell? ⟨w.heap.size + 1,1,none⟩ = some (.int .i64 o.id)∧w'.cell? ⟨w.heap.size + 1,2,none⟩ = some (.int .i64 o.srv.k)∧w'.cell? ⟨w.heap.size + 1,3,none⟩ = some (.int .i64 o.srv.q)∧w'.cell? ⟨w.heap.size + 1,4,none⟩ = some (.int .i64 o.srv.t)∧w'.cell? ⟨w.heap.size + 1,5,none⟩ = some (.int .i64 o.pol)∧w'.cell? ⟨w.heap.size + 1,6,none⟩ = some (.slice oa o.tasks.length oc)∧w'.cell? ⟨w.heap.size + 1,7,none⟩ = some (.int .i64 o.at_)) (simp (maxDischargeDepth:=8) [go_sem, *])
  (first
   | (go_at_call 44;(with_reducible refine hor.out.mono ?_);rintro e wq ⟨rfl,hwq⟩;have hwq2:=hwq.symm;clear hwq;subst hwq2)
   | fail)
 go_upto_region 4 with fail
 go_region_held3 (fun w' => w'.cell? ⟨tb,0,none⟩ = some (.slice T1.an T1.N.length T1.cn)∧w'.cell? ⟨tb,1,none⟩ = some (.slice T1.ag T1.G.length T1.cg)∧w'.cell? ⟨tb,2,none⟩ = some (.int .i64 T1.last)∧w'.cell? ⟨tb,3,none⟩ = some (.int .i64 T1.now)) (simp (maxDischargeDepth:=8) [go_sem, *])
  (first
   | (go_at_call 45;(with_reducible refine (AG 7 _).mono ?_);rintro e w4 ⟨rfl,g4⟩;have gq:Gr w3 w4:=((Gr.refl w3).drew).trans g4;have hA4:=hA3.out.gr gq;have hP4:=hP3.out.gr gq;have hR4:=hR3.out.gr gq;have gW4:=gW3.trans gq;obtain ⟨v0,v1,v2,v3⟩:=hA4.o.c4;have pf:=fun i => hP4.free i;have rf:=fun i => hR4.free i;obtain ⟨k0,k1,k2,k3⟩:=hP4.c4;obtain ⟨j0,j1⟩:=hR4.c2;refine AZ ?_ hA4 hP4 hR4;clear hA4 hP4 hR4;intro hA4 hP4 hR4)
   | fail)
 clear t0 t1 t2 t3 u0 u1 u2 u3 v0 v1 v2 v3 k0 k1 k2 k3 j0 j1 o0 o1 o2 o3 o4 o5 o6 o7 p0 p1 p2 p3 p4 p5 p6 p7;obtain ⟨wf,hwf⟩:=zE ((((((w4.setCell ⟨w.heap.size + 1 + 1,0,none⟩ (.slice T1.an T1.N.length T1.cn)).setCell ⟨w.heap.size + 1 + 1,1,none⟩ (.slice T1.ag T1.G.length T1.cg)).setCell ⟨w.heap.size + 1 + 1,2,none⟩ (.int .i64 T1.last)).setCell ⟨w.heap.size + 1 + 1,3,none⟩ (.int .i64 T1.now)).setCell ⟨w.heap.size + 1 + 1 + 1,0,none⟩ (.int .i64 7)).setCell ⟨w.heap.size + 1 + 1 + 1,1,none⟩ (.int .i64 0));rw [← hwf];obtain ⟨hPf,hRf,hTf,gWf⟩:=GM hA4.out hP4.out hR4.out gW4 hwf;obtain ⟨k0,k1,k2,k3⟩:=hPf.c4;obtain ⟨j0,j1⟩:=hRf.c2;replace hwf:=zH hwf;go_wp2_with fail;refine bodyPost_ret (v:=.tuple #[.agg T1.row,.agg #[.int .i64 7,.int .i64 0]]) (by simp [results,Tryz.results13,go_sem,k0,k1,k2,k3,j0,j1]) rfl ?_;refine ⟨T1,?_,?_,hTf,gWf⟩
 ·rw [hV.out,Db (.inl hb.out)]
 ·rw [hV.out,Db (.inl hb.out)];exact hv1.out
theorem Nu (T:TM) (w:World) (hT:Av Any w T) (o:A8) (oa:Option Addr) (oc:Nat) (hkd:-9223372036854775808≤o.kd∧o.kd≤9223372036854775807) {f:Nat} (hf:Ej o.kd = some f) (hb:o.at_ < 0) :
 Calls Tryz.prog 13 #[.agg T.row,.agg #[.int .i64 o.kd,.int .i64 o.id,.int .i64 o.srv.k,.int .i64 o.srv.q,.int .i64 o.srv.t,.int .i64 o.pol,.slice oa o.tasks.length oc,.int .i64 o.at_]] w (DA (T.v.apply o) w):=by
 obtain ⟨V,hV⟩:=zE (T.v.apply o);rw [← hV];obtain ⟨W,hW⟩:=zE ((((w.alloc (.cells T.row 27)).alloc (.cells #[.int .i64 o.kd,.int .i64 o.id,.int .i64 o.srv.k,.int .i64 o.srv.q,.int .i64 o.srv.t,.int .i64 o.pol,.slice oa o.tasks.length oc,.int .i64 o.at_] 32)).alloc (.cells #[.slice none 0 0,.slice none 0 0,.int .i64 0,.int .i64 0] 27)).alloc (.cells #[.int .i64 0,.int .i64 0] 34));have gA:Gr w W:=by rw [hW];exact ((((Gr.refl w).alloc _).alloc _).alloc _).alloc _
 have hXW:Ag W w.heap.size T.row 27:=by rw [hW];exact (((Ag.new w _ _).alloc _).alloc _).alloc _
 have hOW:Ag W (w.heap.size + 1) #[.int .i64 o.kd,.int .i64 o.id,.int .i64 o.srv.k,.int .i64 o.srv.q,.int .i64 o.srv.t,.int .i64 o.pol,.slice oa o.tasks.length oc,.int .i64 o.at_] 32:=by
  rw [hW];exact (Ag.n1.alloc _).alloc _
 have hPW:Ag W (w.heap.size + 2) #[.slice none 0 0,.slice none 0 0,.int .i64 0,.int .i64 0] 27:=by
  rw [hW];exact Ag.n2.alloc _
 have hRW:Ag W (w.heap.size + 3) #[.int .i64 0,.int .i64 0] 34:=by
  rw [hW];exact Ag.n3
 have hWz:W.heap.size = w.heap.size + 4:=by rw [hW];simp
 have hcp:=Dr T W (hT.gr gA);obtain ⟨x0,x1,x2,x3⟩:=hXW.c4;refine Br ?_ hW hXW hOW hPW hRW hcp hT hV;clear hW hXW hOW hPW hRW hcp hT hV;intro hW hXW hOW hPW hRW hcp hT hV;go_enter Tryz.func13,Tryz.ntmps13;go_upto_region 1 with fail
 rw [← hW.out];go_wp2_with fail;refine hcp.out.mono ?_;rintro e w1 ⟨T1,rfl,hT1v,hT1,g1⟩;obtain ⟨tb,htb⟩:=zE w1.heap.size;obtain ⟨w2,hw2⟩:=zE (w1.alloc (.cells T1.row 27));have gw2:Gr w1 w2:=by rw [hw2];exact (Gr.refl w1).alloc _
 have hX2:Ag w2 tb T1.row 27:=by rw [hw2,htb];exact Ag.new w1 _ _
 have hg1z:=g1.size;have hgw2z:=gw2.size;have hA2:Bn (w.heap.size + 4) w2 tb T1:=⟨hX2,(hT1.base (by omega)).gr gw2,by omega,fun x hx ad ha ht e => by have:=(hT1.k x hx).1.1.lt ha ht;omega⟩
 have hO2:=(hOW.out.gr g1).gr gw2;have hP2:=(hPW.out.gr g1).gr gw2;have hR2:=(hRW.out.gr g1).gr gw2;have gW2:=(gA.trans g1).trans gw2;have hz2:w2.heap.size = tb + 1:=by rw [hw2,htb];simp
 have hq2:tb ≠ w.heap.size + 1 + 1:=by omega
 have hq3:tb ≠ w.heap.size + 1 + 1 + 1:=by omega
 have hq2s:w.heap.size + 1 + 1 ≠ tb:=by omega
 have hq3s:w.heap.size + 1 + 1 + 1 ≠ tb:=by omega
 have htz:w.heap.size + 4≤tb:=by omega
 refine AZ ?_ hg1z hgw2z hWz;clear hg1z hgw2z hWz;intro hg1z hgw2z hWz;clear x0 x1 x2 x3;obtain ⟨t0,t1,t2,t3⟩:=hA2.o.c4;obtain ⟨o0,o1,o2,o3,o4,o5,o6,o7⟩:=hO2.c8;refine Br ?_ hT1 hw2 hX2 hA2 hO2 hP2 hR2 htb;clear hT1 hw2 hX2 hA2 hO2 hP2 hR2 htb;intro hT1 hw2 hX2 hA2 hO2 hP2 hR2 htb;replace hz2:=zH hz2;go_upto_region 2 with fail
 rw [← htb.out,← hw2.out];obtain ⟨w3,hw3⟩:=zE (w2.drew.alloc (.map ordsE 4));have g3:Gr w2 w3:=by rw [hw3];exact ((Gr.refl w2).drew).alloc _
 obtain ⟨z,hz⟩:=Fu w3 w2.drew.heap.size (by rw [hw3];exact heap_alloc_new _ _) o.kd hkd;have hor:=D6 w2.drew;rw [← hw3] at hor;obtain ⟨mb,hmb⟩:=zE w2.drew.heap.size;rw [← hmb] at hz hor;replace hmb:=zH hmb;have gX3:=((g1.trans gw2).trans g3)
 have hA3:=hA2.out.gr g3;have hO3:=hO2.out.gr g3;have hP3:=hP2.out.gr g3;have hR3:=hR2.out.gr g3;have gW3:=gW2.trans g3;have hv1:T1.v = T.v:=hT1v;obtain ⟨u0,u1,u2,u3⟩:=hA3.o.c4;obtain ⟨p0,p1,p2,p3,p4,p5,p6,p7⟩:=hO3.c8;refine Br ?_ hor hA3 hO3 hP3 hR3 hw3 hv1 gX3;clear hor hA3 hO3 hP3 hR3 hw3 hv1 gX3;intro hor hA3 hO3 hP3 hR3 hw3 hv1 gX3;rw [hf] at hz;replace hf:=zH hf;have t1:o.at_ < 0:=hb;have t1b:decide (o.at_ < 0) = true:=decide_eq_true t1;replace hb:=zH hb;go_region_held3 (fun w' => w'.cell? ⟨w.heap.size + 1,0,none⟩ = some (.int .i64 o.kd)∧w'.cell? ⟨w.heap.size + 1,1,none⟩ = some (.int .i64 o.id)∧w'.cell? ⟨w.heap.size + 1,2,none⟩ = some (.int .i64 o.srv.k)∧w'.cell? ⟨w.heap.size + 1,3,none⟩ = some (.int .i64 o.srv.q)∧w'.cell? ⟨w.heap.size + 1,4,none⟩ = some (.int .i64 o.srv.t)∧w'.cell? ⟨w.heap.size + 1,5,none⟩ = some (.int .i64 o.pol)∧w'.cell? ⟨w.heap.size + 1,6,none⟩ = some (.slice oa o.tasks.length oc)∧w'.cell? ⟨w.heap.size + 1,7,none⟩ = some (.int .i64 o.at_)) (simp (maxDischargeDepth:=8) [go_sem, *])
  (first
   | (go_at_call 44;(with_reducible refine hor.out.mono ?_);rintro e wq ⟨rfl,hwq⟩;have hwq2:=hwq.symm;clear hwq;subst hwq2)
   | fail)
 go_upto_region 4 with fail
 go_region_held3 (fun w' => w'.cell? ⟨tb,0,none⟩ = some (.slice T1.an T1.N.length T1.cn)∧w'.cell? ⟨tb,1,none⟩ = some (.slice T1.ag T1.G.length T1.cg)∧w'.cell? ⟨tb,2,none⟩ = some (.int .i64 T1.last)∧w'.cell? ⟨tb,3,none⟩ = some (.int .i64 T1.now)) (simp (maxDischargeDepth:=8) [go_sem, *])
  (first
   | (go_at_call 45;(with_reducible refine (AG 7 _).mono ?_);rintro e w4 ⟨rfl,g4⟩;have gq:Gr w3 w4:=((Gr.refl w3).drew).trans g4;have hA4:=hA3.out.gr gq;have hP4:=hP3.out.gr gq;have hR4:=hR3.out.gr gq;have gW4:=gW3.trans gq;obtain ⟨v0,v1,v2,v3⟩:=hA4.o.c4;have pf:=fun i => hP4.free i;have rf:=fun i => hR4.free i;obtain ⟨k0,k1,k2,k3⟩:=hP4.c4;obtain ⟨j0,j1⟩:=hR4.c2;refine AZ ?_ hA4 hP4 hR4;clear hA4 hP4 hR4;intro hA4 hP4 hR4)
   | fail)
 clear t0 t1 t2 t3 u0 u1 u2 u3 v0 v1 v2 v3 k0 k1 k2 k3 j0 j1 o0 o1 o2 o3 o4 o5 o6 o7 p0 p1 p2 p3 p4 p5 p6 p7;obtain ⟨wf,hwf⟩:=zE ((((((w4.setCell ⟨w.heap.size + 1 + 1,0,none⟩ (.slice T1.an T1.N.length T1.cn)).setCell ⟨w.heap.size + 1 + 1,1,none⟩ (.slice T1.ag T1.G.length T1.cg)).setCell ⟨w.heap.size + 1 + 1,2,none⟩ (.int .i64 T1.last)).setCell ⟨w.heap.size + 1 + 1,3,none⟩ (.int .i64 T1.now)).setCell ⟨w.heap.size + 1 + 1 + 1,0,none⟩ (.int .i64 7)).setCell ⟨w.heap.size + 1 + 1 + 1,1,none⟩ (.int .i64 0));rw [← hwf];obtain ⟨hPf,hRf,hTf,gWf⟩:=GM hA4.out hP4.out hR4.out gW4 hwf;obtain ⟨k0,k1,k2,k3⟩:=hPf.c4;obtain ⟨j0,j1⟩:=hRf.c2;replace hwf:=zH hwf;go_wp2_with fail;refine bodyPost_ret (v:=.tuple #[.agg T1.row,.agg #[.int .i64 7,.int .i64 0]]) (by simp [results,Tryz.results13,go_sem,k0,k1,k2,k3,j0,j1]) rfl ?_;refine ⟨T1,?_,?_,hTf,gWf⟩
 ·rw [hV.out,Db (.inr (.inl hb.out))]
 ·rw [hV.out,Db (.inr (.inl hb.out))];exact hv1.out
theorem Nv (T:TM) (w:World) (hT:Av Any w T) (o:A8) (oa:Option Addr) (oc:Nat) (hkd:-9223372036854775808≤o.kd∧o.kd≤9223372036854775807) {f:Nat} (hf:Ej o.kd = some f) (hb:1099511627776 < o.at_) :
 Calls Tryz.prog 13 #[.agg T.row,.agg #[.int .i64 o.kd,.int .i64 o.id,.int .i64 o.srv.k,.int .i64 o.srv.q,.int .i64 o.srv.t,.int .i64 o.pol,.slice oa o.tasks.length oc,.int .i64 o.at_]] w (DA (T.v.apply o) w):=by
 obtain ⟨V,hV⟩:=zE (T.v.apply o);rw [← hV];obtain ⟨W,hW⟩:=zE ((((w.alloc (.cells T.row 27)).alloc (.cells #[.int .i64 o.kd,.int .i64 o.id,.int .i64 o.srv.k,.int .i64 o.srv.q,.int .i64 o.srv.t,.int .i64 o.pol,.slice oa o.tasks.length oc,.int .i64 o.at_] 32)).alloc (.cells #[.slice none 0 0,.slice none 0 0,.int .i64 0,.int .i64 0] 27)).alloc (.cells #[.int .i64 0,.int .i64 0] 34));have gA:Gr w W:=by rw [hW];exact ((((Gr.refl w).alloc _).alloc _).alloc _).alloc _
 have hXW:Ag W w.heap.size T.row 27:=by rw [hW];exact (((Ag.new w _ _).alloc _).alloc _).alloc _
 have hOW:Ag W (w.heap.size + 1) #[.int .i64 o.kd,.int .i64 o.id,.int .i64 o.srv.k,.int .i64 o.srv.q,.int .i64 o.srv.t,.int .i64 o.pol,.slice oa o.tasks.length oc,.int .i64 o.at_] 32:=by
  rw [hW];exact (Ag.n1.alloc _).alloc _
 have hPW:Ag W (w.heap.size + 2) #[.slice none 0 0,.slice none 0 0,.int .i64 0,.int .i64 0] 27:=by
  rw [hW];exact Ag.n2.alloc _
 have hRW:Ag W (w.heap.size + 3) #[.int .i64 0,.int .i64 0] 34:=by
  rw [hW];exact Ag.n3
 have hWz:W.heap.size = w.heap.size + 4:=by rw [hW];simp
 have hcp:=Dr T W (hT.gr gA);obtain ⟨x0,x1,x2,x3⟩:=hXW.c4;refine Br ?_ hW hXW hOW hPW hRW hcp hT hV;clear hW hXW hOW hPW hRW hcp hT hV;intro hW hXW hOW hPW hRW hcp hT hV;go_enter Tryz.func13,Tryz.ntmps13;go_upto_region 1 with fail
 rw [← hW.out];go_wp2_with fail;refine hcp.out.mono ?_;rintro e w1 ⟨T1,rfl,hT1v,hT1,g1⟩;obtain ⟨tb,htb⟩:=zE w1.heap.size;obtain ⟨w2,hw2⟩:=zE (w1.alloc (.cells T1.row 27));have gw2:Gr w1 w2:=by rw [hw2];exact (Gr.refl w1).alloc _
 have hX2:Ag w2 tb T1.row 27:=by rw [hw2,htb];exact Ag.new w1 _ _
 have hg1z:=g1.size;have hgw2z:=gw2.size;have hA2:Bn (w.heap.size + 4) w2 tb T1:=⟨hX2,(hT1.base (by omega)).gr gw2,by omega,fun x hx ad ha ht e => by have:=(hT1.k x hx).1.1.lt ha ht;omega⟩
 have hO2:=(hOW.out.gr g1).gr gw2;have hP2:=(hPW.out.gr g1).gr gw2;have hR2:=(hRW.out.gr g1).gr gw2;have gW2:=(gA.trans g1).trans gw2;have hz2:w2.heap.size = tb + 1:=by rw [hw2,htb];simp
 have hq2:tb ≠ w.heap.size + 1 + 1:=by omega
 have hq3:tb ≠ w.heap.size + 1 + 1 + 1:=by omega
 have hq2s:w.heap.size + 1 + 1 ≠ tb:=by omega
 have hq3s:w.heap.size + 1 + 1 + 1 ≠ tb:=by omega
 have htz:w.heap.size + 4≤tb:=by omega
 refine AZ ?_ hg1z hgw2z hWz;clear hg1z hgw2z hWz;intro hg1z hgw2z hWz;clear x0 x1 x2 x3;obtain ⟨t0,t1,t2,t3⟩:=hA2.o.c4;obtain ⟨o0,o1,o2,o3,o4,o5,o6,o7⟩:=hO2.c8;refine Br ?_ hT1 hw2 hX2 hA2 hO2 hP2 hR2 htb;clear hT1 hw2 hX2 hA2 hO2 hP2 hR2 htb;intro hT1 hw2 hX2 hA2 hO2 hP2 hR2 htb;replace hz2:=zH hz2;go_upto_region 2 with fail
 rw [← htb.out,← hw2.out];obtain ⟨w3,hw3⟩:=zE (w2.drew.alloc (.map ordsE 4));have g3:Gr w2 w3:=by rw [hw3];exact ((Gr.refl w2).drew).alloc _
 obtain ⟨z,hz⟩:=Fu w3 w2.drew.heap.size (by rw [hw3];exact heap_alloc_new _ _) o.kd hkd;have hor:=D6 w2.drew;rw [← hw3] at hor;obtain ⟨mb,hmb⟩:=zE w2.drew.heap.size;rw [← hmb] at hz hor;replace hmb:=zH hmb;have gX3:=((g1.trans gw2).trans g3)
 have hA3:=hA2.out.gr g3;have hO3:=hO2.out.gr g3;have hP3:=hP2.out.gr g3;have hR3:=hR2.out.gr g3;have gW3:=gW2.trans g3;have hv1:T1.v = T.v:=hT1v;obtain ⟨u0,u1,u2,u3⟩:=hA3.o.c4;obtain ⟨p0,p1,p2,p3,p4,p5,p6,p7⟩:=hO3.c8;refine Br ?_ hor hA3 hO3 hP3 hR3 hw3 hv1 gX3;clear hor hA3 hO3 hP3 hR3 hw3 hv1 gX3;intro hor hA3 hO3 hP3 hR3 hw3 hv1 gX3;rw [hf] at hz;replace hf:=zH hf;have t1:¬ o.at_ < 0:=by omega
 have t1b:decide (o.at_ < 0) = false:=decide_eq_false t1;have t2:1099511627776 < o.at_:=hb;have t2b:decide (1099511627776 < o.at_) = true:=decide_eq_true t2;replace hb:=zH hb;go_region_held3 (fun w' => w'.cell? ⟨w.heap.size + 1,0,none⟩ = some (.int .i64 o.kd)∧w'.cell? ⟨w.heap.size + 1,1,none⟩ = some (.int .i64 o.id)∧w'.cell? ⟨w.heap.size + 1,2,none⟩ = some (.int .i64 o.srv.k)∧w'.cell? ⟨w.heap.size + 1,3,none⟩ = some (.int .i64 o.srv.q)∧w'.cell? ⟨w.heap.size + 1,4,none⟩ = some (.int .i64 o.srv.t)∧w'.cell? ⟨w.heap.size + 1,5,none⟩ = some (.int .i64 o.pol)∧w'.cell? ⟨w.heap.size + 1,6,none⟩ = some (.slice oa o.tasks.length oc)∧w'.cell? ⟨w.heap.size + 1,7,none⟩ = some (.int .i64 o.at_)) (simp (maxDischargeDepth:=8) [go_sem, *])
  (first
   | (go_at_call 44;(with_reducible refine hor.out.mono ?_);rintro e wq ⟨rfl,hwq⟩;have hwq2:=hwq.symm;clear hwq;subst hwq2)
   | fail)
 go_upto_region 4 with fail
 go_region_held3 (fun w' => w'.cell? ⟨tb,0,none⟩ = some (.slice T1.an T1.N.length T1.cn)∧w'.cell? ⟨tb,1,none⟩ = some (.slice T1.ag T1.G.length T1.cg)∧w'.cell? ⟨tb,2,none⟩ = some (.int .i64 T1.last)∧w'.cell? ⟨tb,3,none⟩ = some (.int .i64 T1.now)) (simp (maxDischargeDepth:=8) [go_sem, *])
  (first
   | (go_at_call 45;(with_reducible refine (AG 7 _).mono ?_);rintro e w4 ⟨rfl,g4⟩;have gq:Gr w3 w4:=((Gr.refl w3).drew).trans g4;have hA4:=hA3.out.gr gq;have hP4:=hP3.out.gr gq;have hR4:=hR3.out.gr gq;have gW4:=gW3.trans gq;obtain ⟨v0,v1,v2,v3⟩:=hA4.o.c4;have pf:=fun i => hP4.free i;have rf:=fun i => hR4.free i;obtain ⟨k0,k1,k2,k3⟩:=hP4.c4;obtain ⟨j0,j1⟩:=hR4.c2;refine AZ ?_ hA4 hP4 hR4;clear hA4 hP4 hR4;intro hA4 hP4 hR4)
   | fail)
 clear t0 t1 t2 t3 u0 u1 u2 u3 v0 v1 v2 v3 k0 k1 k2 k3 j0 j1 o0 o1 o2 o3 o4 o5 o6 o7 p0 p1 p2 p3 p4 p5 p6 p7;obtain ⟨wf,hwf⟩:=zE ((((((w4.setCell ⟨w.heap.size + 1 + 1,0,none⟩ (.slice T1.an T1.N.length T1.cn)).setCell ⟨w.heap.size + 1 + 1,1,none⟩ (.slice T1.ag T1.G.length T1.cg)).setCell ⟨w.heap.size + 1 + 1,2,none⟩ (.int .i64 T1.last)).setCell ⟨w.heap.size + 1 + 1,3,none⟩ (.int .i64 T1.now)).setCell ⟨w.heap.size + 1 + 1 + 1,0,none⟩ (.int .i64 7)).setCell ⟨w.heap.size + 1 + 1 + 1,1,none⟩ (.int .i64 0));rw [← hwf];obtain ⟨hPf,hRf,hTf,gWf⟩:=GM hA4.out hP4.out hR4.out gW4 hwf;obtain ⟨k0,k1,k2,k3⟩:=hPf.c4;obtain ⟨j0,j1⟩:=hRf.c2;replace hwf:=zH hwf;go_wp2_with fail;refine bodyPost_ret (v:=.tuple #[.agg T1.row,.agg #[.int .i64 7,.int .i64 0]]) (by simp [results,Tryz.results13,go_sem,k0,k1,k2,k3,j0,j1]) rfl ?_;refine ⟨T1,?_,?_,hTf,gWf⟩
 ·rw [hV.out,Db (.inr (.inr hb.out))]
 ·rw [hV.out,Db (.inr (.inr hb.out))];exact hv1.out
theorem Ed (T:TM) (w:World) (hT:Av Any w T) (o:A8) (oa:Option Addr) (oc:Nat) (hkd:-9223372036854775808≤o.kd∧o.kd≤9223372036854775807) {f:Nat} (hcf:∀ (args:Array Value) (w:World),(callFunc f args).run Tryz.prog w = .ok (.enter f args) w) (hf:Ej o.kd = some f) (ha:0≤o.at_∧o.at_≤1099511627776) {r:Ab→Ab × Int × Int} (hr:T.v.apply o = r (T.v.tick o.at_)) (hdo:∀ (W0 w6:World) (T2:TM) (tb:Nat),W0.heap.size = w.heap.size + 4→Gr w W0→Gr W0 w6→Bn (w.heap.size + 4) w6 tb T2→T2.v = T.v.tick o.at_→Calls Tryz.prog f #[.pointer (some ⟨tb,0,none⟩),.agg #[.int .i64 o.kd,.int .i64 o.id,.int .i64 o.srv.k,.int .i64 o.srv.q,.int .i64 o.srv.t,.int .i64 o.pol,.slice oa o.tasks.length oc,.int .i64 o.at_]] w6 (KJ (w.heap.size + 4) W0 tb (r T2.v))) :
 Calls Tryz.prog 13 #[.agg T.row,.agg #[.int .i64 o.kd,.int .i64 o.id,.int .i64 o.srv.k,.int .i64 o.srv.q,.int .i64 o.srv.t,.int .i64 o.pol,.slice oa o.tasks.length oc,.int .i64 o.at_]] w (DA (T.v.apply o) w):=by
 obtain ⟨ha1,ha2⟩:=ha;obtain ⟨V,hV⟩:=zE (T.v.apply o);rw [← hV];obtain ⟨W,hW⟩:=zE ((((w.alloc (.cells T.row 27)).alloc (.cells #[.int .i64 o.kd,.int .i64 o.id,.int .i64 o.srv.k,.int .i64 o.srv.q,.int .i64 o.srv.t,.int .i64 o.pol,.slice oa o.tasks.length oc,.int .i64 o.at_] 32)).alloc (.cells #[.slice none 0 0,.slice none 0 0,.int .i64 0,.int .i64 0] 27)).alloc (.cells #[.int .i64 0,.int .i64 0] 34));have gA:Gr w W:=by rw [hW];exact ((((Gr.refl w).alloc _).alloc _).alloc _).alloc _
 have hXW:Ag W w.heap.size T.row 27:=by rw [hW];exact (((Ag.new w _ _).alloc _).alloc _).alloc _
 have hOW:Ag W (w.heap.size + 1) #[.int .i64 o.kd,.int .i64 o.id,.int .i64 o.srv.k,.int .i64 o.srv.q,.int .i64 o.srv.t,.int .i64 o.pol,.slice oa o.tasks.length oc,.int .i64 o.at_] 32:=by
  rw [hW];exact (Ag.n1.alloc _).alloc _
 have hPW:Ag W (w.heap.size + 2) #[.slice none 0 0,.slice none 0 0,.int .i64 0,.int .i64 0] 27:=by
  rw [hW];exact Ag.n2.alloc _
 have hRW:Ag W (w.heap.size + 3) #[.int .i64 0,.int .i64 0] 34:=by
  rw [hW];exact Ag.n3
 have hWz:W.heap.size = w.heap.size + 4:=by rw [hW];simp
 have hcp:=Dr T W (hT.gr gA);obtain ⟨x0,x1,x2,x3⟩:=hXW.c4;refine Br ?_ hW hXW hOW hPW hRW hcp hT hV;clear hW hXW hOW hPW hRW hcp hT hV;intro hW hXW hOW hPW hRW hcp hT hV;go_enter Tryz.func13,Tryz.ntmps13;go_upto_region 1 with fail
 rw [← hW.out];go_wp2_with fail;refine hcp.out.mono ?_;rintro e w1 ⟨T1,rfl,hT1v,hT1,g1⟩;obtain ⟨tb,htb⟩:=zE w1.heap.size;obtain ⟨w2,hw2⟩:=zE (w1.alloc (.cells T1.row 27));have gw2:Gr w1 w2:=by rw [hw2];exact (Gr.refl w1).alloc _
 have hX2:Ag w2 tb T1.row 27:=by rw [hw2,htb];exact Ag.new w1 _ _
 have hg1z:=g1.size;have hgw2z:=gw2.size;have hA2:Bn (w.heap.size + 4) w2 tb T1:=⟨hX2,(hT1.base (by omega)).gr gw2,by omega,fun x hx ad ha ht e => by have:=(hT1.k x hx).1.1.lt ha ht;omega⟩
 have hO2:=(hOW.out.gr g1).gr gw2;have hP2:=(hPW.out.gr g1).gr gw2;have hR2:=(hRW.out.gr g1).gr gw2;have gW2:=(gA.trans g1).trans gw2;have hz2:w2.heap.size = tb + 1:=by rw [hw2,htb];simp
 have hq2:tb ≠ w.heap.size + 1 + 1:=by omega
 have hq3:tb ≠ w.heap.size + 1 + 1 + 1:=by omega
 have hq2s:w.heap.size + 1 + 1 ≠ tb:=by omega
 have hq3s:w.heap.size + 1 + 1 + 1 ≠ tb:=by omega
 have htz:w.heap.size + 4≤tb:=by omega
 refine AZ ?_ hg1z hgw2z hWz;clear hg1z hgw2z hWz;intro hg1z hgw2z hWz;clear x0 x1 x2 x3;obtain ⟨t0,t1,t2,t3⟩:=hA2.o.c4;obtain ⟨o0,o1,o2,o3,o4,o5,o6,o7⟩:=hO2.c8;refine Br ?_ hT1 hw2 hX2 hA2 hO2 hP2 hR2 htb;clear hT1 hw2 hX2 hA2 hO2 hP2 hR2 htb;intro hT1 hw2 hX2 hA2 hO2 hP2 hR2 htb;replace hz2:=zH hz2;go_upto_region 2 with fail
 rw [← htb.out,← hw2.out];obtain ⟨w3,hw3⟩:=zE (w2.drew.alloc (.map ordsE 4));have g3:Gr w2 w3:=by rw [hw3];exact ((Gr.refl w2).drew).alloc _
 obtain ⟨z,hz⟩:=Fu w3 w2.drew.heap.size (by rw [hw3];exact heap_alloc_new _ _) o.kd hkd;have hor:=D6 w2.drew;rw [← hw3] at hor;obtain ⟨mb,hmb⟩:=zE w2.drew.heap.size;rw [← hmb] at hz hor;replace hmb:=zH hmb;have gX3:=((g1.trans gw2).trans g3)
 have hA3:=hA2.out.gr g3;have hO3:=hO2.out.gr g3;have hP3:=hP2.out.gr g3;have hR3:=hR2.out.gr g3;have gW3:=gW2.trans g3;have hv1:T1.v = T.v:=hT1v;obtain ⟨u0,u1,u2,u3⟩:=hA3.o.c4;obtain ⟨p0,p1,p2,p3,p4,p5,p6,p7⟩:=hO3.c8;refine Br ?_ hor hA3 hO3 hP3 hR3 hw3 hv1 gX3;clear hor hA3 hO3 hP3 hR3 hw3 hv1 gX3;intro hor hA3 hO3 hP3 hR3 hw3 hv1 gX3;rw [hf] at hz;dsimp only [Option.isSome] at hz;rw [hr] at hV;refine DT ?_ hf hr hcf hdo hV;clear hf hr hcf hdo hV;intro hf hr hcf hdo hV;have t1:¬ o.at_ < 0:=by omega
 have t1b:decide (o.at_ < 0) = false:=decide_eq_false t1;have t2:¬ 1099511627776 < o.at_:=by omega
 have t2b:decide (1099511627776 < o.at_) = false:=decide_eq_false t2;go_region_held3 (fun w' => w'.cell? ⟨w.heap.size + 1,0,none⟩ = some (.int .i64 o.kd)∧w'.cell? ⟨w.heap.size + 1,1,none⟩ = some (.int .i64 o.id)∧w'.cell? ⟨w.heap.size + 1,2,none⟩ = some (.int .i64 o.srv.k)∧w'.cell? ⟨w.heap.size + 1,3,none⟩ = some (.int .i64 o.srv.q)∧w'.cell? ⟨w.heap.size + 1,4,none⟩ = some (.int .i64 o.srv.t)∧w'.cell? ⟨w.heap.size + 1,5,none⟩ = some (.int .i64 o.pol)∧w'.cell? ⟨w.heap.size + 1,6,none⟩ = some (.slice oa o.tasks.length oc)∧w'.cell? ⟨w.heap.size + 1,7,none⟩ = some (.int .i64 o.at_)) (simp (maxDischargeDepth:=8) [go_sem, *])
  (first
   | (go_at_call 44;(with_reducible refine hor.out.mono ?_);rintro e wq ⟨rfl,hwq⟩;have hwq2:=hwq.symm;clear hwq;subst hwq2)
   | fail)
 have tf:=fun i => hA3.out.o.free i
 go_upto_region 6 with fail
 obtain ⟨mx,hmx⟩:=zE (max T1.now o.at_);rw [← hmx];obtain ⟨w4,hw4⟩:=zE (w3.setCell ⟨tb,3,none⟩ (.int .i64 mx));rw [← hw4];obtain ⟨Tm,hTm⟩:∃ Tm:TM,Tm = ⟨T1.N,T1.an,T1.cn,T1.G,T1.ag,T1.cg,T1.last,mx⟩:=⟨_,rfl⟩
 have hA3t:=hA3.out.t;obtain ⟨gx4,hA4⟩:=GN (T:=Tm) (j:=3) hA3.out.o (by rw [hTm];exact ⟨hA3t.n,hA3t.g,hA3t.k,hA3t.d,hA3t.dg,hA3t.f,hA3t.l1,hA3t.l2⟩) hA3.out.hB (by rw [hTm];exact hA3.out.b) hw4 (by rw [hTm];rfl);have hO4:Ag w4 (w.heap.size + 1) #[.int .i64 o.kd,.int .i64 o.id,.int .i64 o.srv.k,.int .i64 o.srv.q,.int .i64 o.srv.t,.int .i64 o.pol,.slice oa o.tasks.length oc,.int .i64 o.at_] 32:=by rw [hw4];exact hO3.out.other (by show w.heap.size + 1 ≠ tb;omega) _
 have gW4:Gr W w4:=by
  have h1:Gr W w3:=gX3.out;exact gx4.all h1 (fun y hy => by rw [List.mem_singleton.1 hy];have:=hWz.out;omega)
 clear t0 t1 t2 t3 u0 u1 u2 u3 o0 o1 o2 o3 o4 o5 o6 o7 p0 p1 p2 p3 p4 p5 p6 p7 tf hA3t;obtain ⟨c0,c1,c2,c3⟩:=hA4.o.c4;have hlf:=N6 (w.heap.size + 4) Tm.ag Tm.cg Tm.G Tm.now tb w4 hA4.t.g hA4.t.l2 hA4.o.lt (Aj hA4.t.g hA4.o (by decide)) c3;refine Fm ?_ hw4 hA4 hO4 gx4 hlf hmx hTm;clear hw4 hA4 hO4 gx4 hlf hmx hTm;intro hw4 hA4 hO4 gx4 hlf hmx hTm;have tf:=fun i => hA4.out.o.free i
 go_wp2_with fail;refine hlf.out.mono ?_;rintro e w5 ⟨rfl,hG5,gx5⟩;obtain ⟨F,hF⟩:=zE (Tm.G.filter (CA Tm.now));rw [← hF] at hG5 ⊢;have hFl:F.length≤Tm.G.length:=by rw [hF];exact List.length_filter_le _ _
 have hins:∀ y,y ∈ (Tm.ag.map (·.block)).toList→(Value.slice Tm.ag Tm.G.length Tm.cg).ownBlock = some y:=fun y hy => by
  cases hta:Tm.ag with
  | none => rw [hta] at hy;cases hy
  | some q => rw [hta] at hy;simp at hy;rw [hy];rfl
 have hA4t:=hA4.out.t;have hW5:A5 (w.heap.size + 4) w5 ⟨Tm.N,Tm.an,Tm.cn,F,Tm.ag,Tm.cg,Tm.last,Tm.now⟩:=hA4t.ghosts gx5 (fun k hk hm => Cg hA4t.n hA4t.g (by decide) hk (hins k hm)) (fun x hx ad ha ht hm => hA4t.dg x hx ad ha ht (hins _ hm)) _ _ hG5 (fun x hx ad ha ht => by rw [J9 _ F.length Tm.G.length];exact hA4t.dg x hx ad ha ht) (Nat.le_trans hFl hA4t.l2);have hX5:=hA4.out.o.grx gx5 (fun hm => Aj hA4t.g hA4.out.o (by decide) (hins _ hm));have hO5:=hO4.out.grx gx5 (fun hm => Aj hA4t.g hO4.out (by decide) (hins _ hm));have gW5:Gr W w5:=gx5.all gW4 (fun y hy => by have:=(Ar hA4t.g y (hins y hy)).2;have:=hWz.out;omega);clear c0 c1 c2 c3 tf;have tf:=fun i => hX5.free i
 obtain ⟨c0,c1,c2,c3⟩:=hX5.c4;refine Dn ?_ hX5 hO5 hW5 hG5 gx5 hF;clear hX5 hO5 hW5 hG5 gx5 hF;intro hX5 hO5 hW5 hG5 gx5 hF;go_upto_region 7 with fail
 obtain ⟨w6,hw6⟩:=zE (w5.setCell ⟨tb,1,none⟩ (.slice Tm.ag F.length Tm.cg));rw [← hw6];obtain ⟨T2,hT2⟩:∃ T2:TM,T2 = ⟨Tm.N,Tm.an,Tm.cn,F,Tm.ag,Tm.cg,Tm.last,Tm.now⟩:=⟨_,rfl⟩
 obtain ⟨gx6,hA6⟩:=GN (T:=T2) (j:=1) hX5.out (by rw [hT2];exact hW5.out) hA4.out.hB (by rw [hT2];exact hA4.out.b) hw6 (by rw [hT2];rfl);have hO6:Ag w6 (w.heap.size + 1) #[.int .i64 o.kd,.int .i64 o.id,.int .i64 o.srv.k,.int .i64 o.srv.q,.int .i64 o.srv.t,.int .i64 o.pol,.slice oa o.tasks.length oc,.int .i64 o.at_] 32:=by rw [hw6];exact hO5.out.other (by show w.heap.size + 1 ≠ tb;omega) _
 have gW6:Gr W w6:=gx6.all gW5 (fun y hy => by rw [List.mem_singleton.1 hy];have:=hWz.out;omega);have hT2v:T2.v = T.v.tick o.at_:=by
  rw [← hv1.out];exact OK (T1:=T1) (by rw [hT2,hTm.out]) (by rw [hT2,hTm.out]) (by rw [hT2,hTm.out];exact hmx.out) (by rw [hT2];show F = _;rw [hF.out,hTm.out];show T1.G.filter (CA mx) = _;rw [hmx.out])
 have hc:=hdo.out W w6 T2 tb hWz.out gA gW6 hA6 hT2v;clear tf c0 c1 c2 c3;obtain ⟨o0,o1,o2,o3,o4,o5,o6,o7⟩:=hO6.c8;refine Fm ?_ hw6 hA6 hO6 gx6 hT2 hT2v hc;clear hw6 hA6 hO6 gx6 hT2 hT2v hc;intro hw6 hA6 hO6 gx6 hT2 hT2v hc;go_wp2_with fail;rw [hcf.out,Oper.upon_enter];refine hc.out.mono ?_;rintro e w7 ⟨rfl,T3,hA7,hT3v,gW7⟩;have hP7:=hPW.out.gr gW7;have hR7:=hRW.out.gr gW7;have hRv:=hV.out;rw [← hT2v.out] at hRv;rw [← hRv] at hT3v ⊢;obtain ⟨V1,vc,vi⟩:=V;dsimp only at hT3v ⊢;have gz7:Gr w7 (w7.alloc (.cells #[.int .i64 vc,.int .i64 vi] 34)):=(Gr.refl w7).alloc _;obtain ⟨w8,hw8⟩:=zE (w7.alloc (.cells #[.int .i64 vc,.int .i64 vi] 34));rw [← hw8] at gz7;have hS8:Ag w8 w7.heap.size #[.int .i64 vc,.int .i64 vi] 34:=by rw [hw8];exact Ag.new w7 _ _
 have hA8:=hA7.gr gz7;have hP8:=hP7.gr gz7;have hR8:=hR7.gr gz7;have gW8:=gA.trans (gW7.trans gz7);have hqs:w.heap.size + 4≤w7.heap.size:=by have:=gW7.size;have:=hWz.out;omega
 obtain ⟨sb,hsb⟩:=zE w7.heap.size;rw [← hsb] at hqs hS8;have hs2:sb ≠ w.heap.size + 1 + 1:=by omega
 have hs3:sb ≠ w.heap.size + 1 + 1 + 1:=by omega
 have hs2s:w.heap.size + 1 + 1 ≠ sb:=by omega
 have hs3s:w.heap.size + 1 + 1 + 1 ≠ sb:=by omega
 clear o0 o1 o2 o3 o4 o5 o6 o7;refine Br ?_ hA7 hP7 hR7 hw8 hsb gz7 hRv hT3v;clear hA7 hP7 hR7 hw8 hsb gz7 hRv hT3v;intro hA7 hP7 hR7 hw8 hsb gz7 hRv hT3v;obtain ⟨v0,v1,v2,v3⟩:=hA8.o.c4;have pf:=fun i => hP8.free i
 have rf:=fun i => hR8.free i
 obtain ⟨k0,k1,k2,k3⟩:=hP8.c4;obtain ⟨j0,j1⟩:=hR8.c2;obtain ⟨s0,s1⟩:=hS8.c2;refine B0 ?_ hA8 hP8 hR8 hS8;clear hA8 hP8 hR8 hS8;intro hA8 hP8 hR8 hS8;go_upto_region 8 with fail
 rw [← hsb.out,← hw8.out];go_region_held3 (fun w' => w'.cell? ⟨tb,0,none⟩ = some (.slice T3.an T3.N.length T3.cn)∧w'.cell? ⟨tb,1,none⟩ = some (.slice T3.ag T3.G.length T3.cg)∧w'.cell? ⟨tb,2,none⟩ = some (.int .i64 T3.last)∧w'.cell? ⟨tb,3,none⟩ = some (.int .i64 T3.now)∧w'.cell? ⟨sb,0,none⟩ = some (.int .i64 vc)∧w'.cell? ⟨sb,1,none⟩ = some (.int .i64 vi)) (simp (maxDischargeDepth:=8) [go_sem, *])
  (first | fail)
 clear v0 v1 v2 v3 k0 k1 k2 k3 j0 j1 s0 s1;obtain ⟨wf,hwf⟩:=zE ((((((w8.setCell ⟨w.heap.size + 1 + 1,0,none⟩ (.slice T3.an T3.N.length T3.cn)).setCell ⟨w.heap.size + 1 + 1,1,none⟩ (.slice T3.ag T3.G.length T3.cg)).setCell ⟨w.heap.size + 1 + 1,2,none⟩ (.int .i64 T3.last)).setCell ⟨w.heap.size + 1 + 1,3,none⟩ (.int .i64 T3.now)).setCell ⟨w.heap.size + 1 + 1 + 1,0,none⟩ (.int .i64 vc)).setCell ⟨w.heap.size + 1 + 1 + 1,1,none⟩ (.int .i64 vi));rw [← hwf];obtain ⟨hPf,hRf,hTf,gWf⟩:=GM hA8.out hP8.out hR8.out gW8 hwf;have hPd:=hPf.drew;have hRd:=hRf.drew;obtain ⟨k0,k1,k2,k3⟩:=hPd.c4;obtain ⟨j0,j1⟩:=hRd.c2;replace hwf:=zH hwf;go_wp2_with fail;refine bodyPost_ret (v:=.tuple #[.agg T3.row,.agg #[.int .i64 vc,.int .i64 vi]]) (by simp [results,Tryz.results13,go_sem,k0,k1,k2,k3,j0,j1]) rfl ?_;exact ⟨T3,rfl,hT3v.out,hTf.gr ((Gr.refl _).drew),gWf.drew⟩
theorem Nt {G:List Nat} {E:Nat→Addr} (T:TM) (w:World) (hE:CK G E w) (i0:9 ∈ G) (i1:11 ∈ G) (i3:6 ∈ G) (i4:10 ∈ G) (hT:Av Any w T) {n:Nat} (hS:Bq n T.v) (hn:n < 1000000) (o:A8) (oa:Option Addr) (oc:Nat) (hkd:-9223372036854775808≤o.kd∧o.kd≤9223372036854775807) (hta:Al 4 AA.cells w oa o.tasks) (hoc:oa = none→oc = 0) (hom:o.tasks.length * 32≤140737488351232) :
 Calls Tryz.prog 13 #[.agg T.row,.agg #[.int .i64 o.kd,.int .i64 o.id,.int .i64 o.srv.k,.int .i64 o.srv.q,.int .i64 o.srv.t,.int .i64 o.pol,.slice oa o.tasks.length oc,.int .i64 o.at_]] w (DA (T.v.apply o) w):=by
 by_cases hlo:o.at_ < 0
 ·cases hf:Ej o.kd with
  | none => exact F9 T w hT o oa oc hkd hf
  | some f => exact Nu T w hT o oa oc hkd hf hlo
 by_cases hhi:1099511627776 < o.at_
 ·cases hf:Ej o.kd with
  | none => exact F9 T w hT o oa oc hkd hf
  | some f => exact Nv T w hT o oa oc hkd hf hhi
 have ha:0≤o.at_∧o.at_≤1099511627776:=by omega
 have hfacts:∀ T2:TM,T2.v = T.v.tick o.at_→EF T2.N∧LF T2.N∧(∀ x ∈ T2.N,x.e.id≤T2.last)∧0≤T2.last∧T2.last≤1000000∧0≤T2.now∧T2.now≤1099511627776∧T2.G.length < 1000000:=fun T2 h2 => LN (by rw [h2];exact hS.tick ha.2) hn
 by_cases h1:o.kd = 1
 ·refine Ed T w hT o oa oc hkd (f:=93) (r:=fun t => t.create o) (fun args w => by kernel_rfl) (by unfold Ej;rw [if_pos h1]) ha (by unfold Ab.apply;rw [if_neg (by omega)];dsimp only;rw [if_pos h1]) (fun W0 w6 T2 tb hz g0 g6 hA h2 => ?_);obtain ⟨f1,f2,f3,f4,f5,f6,f7,f8⟩:=hfacts T2 h2;cases hl:o.srv.leg with
  | false => exact Nl W0 (hE.gr g0) i0 T2 w6 tb _ hA g6 o oa oc hl
  | true => exact Lv W0 (hE.gr g0) i0 i1 i3 T2 w6 tb _ hA (by omega) g6 f1 f2 f6 f7 f4 f5 f3 o oa oc hl
 by_cases h2:o.kd = 2
 ·refine Ed T w hT o oa oc hkd (f:=94) (r:=fun t => t.resize o) (fun args w => by kernel_rfl) (by unfold Ej;rw [if_neg h1,if_pos h2]) ha (by unfold Ab.apply;rw [if_neg (by omega)];dsimp only;rw [if_neg h1,if_pos h2]) (fun W0 w6 T2 tb hz g0 g6 hA h2 => ?_);obtain ⟨f1,f2,f3,f4,f5,f6,f7,f8⟩:=hfacts T2 h2;cases hl:o.srv.leg with
  | false => exact Mu W0 (hE.gr g0) i0 T2 w6 tb _ hA g6 o oa oc hl
  | true => exact K4 W0 (hE.gr g0) i0 i1 i3 T2 w6 tb _ hA (by omega) g6 f1 f6 f7 f8 o oa oc hl
 by_cases h3:o.kd = 3
 ·refine Ed T w hT o oa oc hkd (f:=95) (r:=fun t => t.remove o) (fun args w => by kernel_rfl) (by unfold Ej;rw [if_neg h1,if_neg h2,if_pos h3]) ha (by unfold Ab.apply;rw [if_neg (by omega)];dsimp only;rw [if_neg h1,if_neg h2,if_pos h3]) (fun W0 w6 T2 tb hz g0 g6 hA h2 => ?_);obtain ⟨f1,f2,f3,f4,f5,f6,f7,f8⟩:=hfacts T2 h2;exact K6 W0 (hE.gr g0) i0 i1 i3 T2 w6 tb _ hA (by omega) g6 f1 f6 f7 f8 o oa oc
 by_cases h4:o.kd = 4
 ·refine Ed T w hT o oa oc hkd (f:=96) (r:=fun t => t.bind o) (fun args w => by kernel_rfl) (by unfold Ej;rw [if_neg h1,if_neg h2,if_neg h3,if_pos h4]) ha (by unfold Ab.apply;rw [if_neg (by omega)];dsimp only;rw [if_neg h1,if_neg h2,if_neg h3]) (fun W0 w6 T2 tb hz g0 g6 hA h2 => ?_);obtain ⟨f1,f2,f3,f4,f5,f6,f7,f8⟩:=hfacts T2 h2;have hta6:Al 4 AA.cells w6 oa o.tasks:=(AC.grx (K:=Any) ⟨hta,fun _ _ _ => trivial⟩ ((g0.trans g6).x []) (fun _ h => by cases h)).1;cases hl:AW o.pol o.tasks with
  | false => exact O6 W0 (hE.gr g0) i4 T2 w6 tb _ hA g6 f1 o oa oc hta6 hom hl
  | true => exact O5 W0 (hE.gr g0) i0 i1 i4 T2 w6 tb _ hA (by omega) g6 f1 o oa oc hta6 hoc (fun ad ha2 ht => by have:=Al.lt hta ha2 ht;omega) hom hl
 exact F9 T w hT o oa oc hkd (by unfold Ej;rw [if_neg h1,if_neg h2,if_neg h3,if_neg h4])
theorem Hh {B:Nat} {w:World} {T:TM} {gb i:Nat} {x:Gh} (h:A5 B w T) (hgb:T.ag = some ⟨gb,0,none⟩) (hx:T.G[i]? = some x) (m:Int) {w':World} (hw:w' = w.setCell ⟨gb,i * 5 + 4,none⟩ (.int .i64 m)):Aw [gb] w w'∧A5 B w' ⟨T.N,T.an,T.cn,T.G.set i ⟨x.par,x.srv,m⟩,T.ag,T.cg,T.last,T.now⟩:=by
 have g:Aw [gb] w w':=by rw [hw];exact (Aw.refl _ _).set (.inl (by simp)) _
 have hl:(T.G.set i ⟨x.par,x.srv,m⟩).length = T.G.length:=List.length_set;have hob:(Value.slice T.ag T.G.length T.cg).ownBlock = some gb:=by rw [hgb];rfl
 refine ⟨g,h.ghosts g (fun k hk hm => ?_) (fun y hy ad ha ht hm => ?_) _ _ ?_ (fun y hy ad ha ht => ?_) (by rw [hl];exact h.l2)⟩
 ·rw [List.mem_singleton.1 hm] at hk;exact Cg h.n h.g (by decide) hk hob
 ·have:=h.dg y hy ad ha ht;rw [hob,List.mem_singleton.1 hm] at this;exact this rfl
 ·rw [hl];have h0:=h.g;rw [hgb] at h0 ⊢;have h3:=BP h0 (i * 5 + 4) (.int .i64 m);rw [CW Gh.cells_len hx (j:=4) (by decide) (v:=.int .i64 m) (y:=⟨x.par,x.srv,m⟩) rfl] at h3;rw [hw];exact h3
 ·rw [hl];exact h.dg y hy ad ha ht
theorem Aw.new {L S:List Nat} {a b c:World} (h:Aw L a b) (g:Aw S b c) (hS:∀ y,y ∈ S→a.heap.size≤y):Aw L a c :=
 ⟨g.os.trans h.os,g.tape.trans h.tape,g.output.trans h.output,Nat.le_trans h.size g.size,fun k hk hn => (g.block k (Nat.lt_of_lt_of_le hk h.size) (fun hm => by have:=hS k hm;omega)).trans (h.block k hk hn)⟩
theorem A5.far {B n0:Nat} {S:List Nat} {w w':World} {T:TM} (h:A5 B w T) (g:Aw S w w') (hS:∀ y,y ∈ S→n0≤y) (ha:∀ k,(Value.slice T.an T.N.length T.cn).ownBlock = some k→k < n0) (hb:∀ k,(Value.slice T.ag T.G.length T.cg).ownBlock = some k→k < n0) (ht:∀ x ∈ T.N,∀ ad,x.a = some ad→x.e.tasks ≠ []→ad.block < n0):A5 B w' T :=
 h.ghosts g (fun k hk hm => by have:=hS k hm;have:=ha k hk;omega) (fun x hx ad h1 h2 hm => by have:=hS _ hm;have:=ht x hx ad h1 h2;omega) _ _ (BW h.g g (fun k hk hm => by have:=hS k hm;have:=hb k hk;omega)) h.dg h.l2
theorem IH (s:Ao) (l:List Ao):Bo s l≤4096:=by
 unfold Bo;cases hf:(List.range 4096).find? (fun (k:Nat) => decide (BN l ((k:Int) + 1)≤Au (Ak s) ((k:Int) + 1))) with
 | none => simp
 | some n =>
  have:=List.mem_of_find?_eq_some hf;simp at this ⊢;omega
theorem Gj (s:Ao) (a:Option Addr) (l:List Ao) (c:Nat) (w:World) (hl:AJ w a l) (hk:Am s l = none) (hm:l.length≤maxLen) :
 Calls Tryz.prog 58 #[.agg #[.int .i64 s.k,.int .i64 s.q,.int .i64 s.t],.slice a l.length c] w fun e w' => e = .returned (.tuple #[.int .i64 (Bo s l),.int .i64 0])∧Gr w w':=by
 have hkd:=fun w' (g:Gr w w') => Gf s a l c w' (hl.gr g) hm
 rw [hk] at hkd;obtain ⟨hp,hse,-,-⟩:=Df hk;obtain ⟨hal,h8⟩:=Ce hse;have hrow:=Be hp;have hsome:=HA hk;have hg0:Au (Ak s) 0 = 0:=by
  have h1:=Bx hrow 0;have h2:=Dy hrow (l:=0) (Int.le_refl _);omega
 replace hg0:=zH hg0;obtain ⟨W,hW⟩:=zE (w.alloc (.cells #[.int .i64 s.k,.int .i64 s.q,.int .i64 s.t] 29));have gW:Gr w W:=by rw [hW];exact (Gr.refl w).alloc _
 have hB:Ag W (w.heap.size) #[.int .i64 s.k,.int .i64 s.q,.int .i64 s.t] 29:=by
  rw [hW];exact Ag.n0
 have hWz:W.heap.size = w.heap.size + 1:=by rw [hW];simp
 obtain ⟨b0,b1,b2⟩:=hB.c3;refine Br ?_ hW hB hp hse hal hrow hl hk;clear hW hB hp hse hal hrow hl hk;intro hW hB hp hse hal hrow hl hk;replace hsome:=zH hsome;replace hkd:=zH hkd;go_enter Tryz.func58,Tryz.ntmps58;go_upto_region 1 with fail
 rw [← hW.out];go_wp2_with fail;refine (hkd.out W gW).mono ?_;rintro e w4 ⟨cc,rfl,hcc,g4⟩;obtain rfl:cc = 0:=hcc.2 rfl;clear hcc;have gA4:=gW.trans g4;have hB4:=hB.out.gr g4;clear b0 b1 b2;replace hB4:=zH hB4;go_wp2_with fail;go_loopw [7,8] (fun sv iv wr => ∃ n:Nat,1≤n∧n≤4097∧sv = .int .i64 (Au (Ak s) ((n:Int) - 1))∧iv = .int .i64 n∧(∀ j:Nat,1≤j→j < n→Au (Ak s) j < BN l j)∧Gr w4 wr) (fun _ iv _ => 4097 - (intOf iv).toNat);case atStart => exact ⟨1,by omega,by omega,by rw [show ((1:Nat):Int) - 1 = 0 by omega,hg0.out],rfl,(fun j h1 h2 => by omega),Gr.refl _⟩
 case round =>
  obtain ⟨n,n1,n2,rfl,rfl,hall,hg5⟩:=hrel;replace hall:=zH hall;by_cases hn:n≤4096
  ·have tn:(n:Int)≤4096:=by omega
   have tnb:decide ((n:Int)≤4096) = true:=decide_eq_true tn;have hwn:IntKind.i64.wrap ((n:Int) - 1) = (n:Int) - 1:=by rw [IntKind.wrap_i64] <;> omega
   have hst:=Fz hrow.out (i:=(n:Int) - 1);rw [show (n:Int) - 1 + 1 = n by omega] at hst;have hgb:=Bx hrow.out ((n:Int) - 1);have hgu:=Dy hrow.out (l:=(n:Int) - 1) (by omega);have hat:=HN s ((n:Int) - 1) wr hp.out (by omega) (by omega);have hB5:=hB4.out.gr hg5;obtain ⟨b0,b1,b2⟩:=hB5.c3;have gA5:=gA4.trans hg5;replace hB5:=zH hB5;cases ha:NB (Ak s) ((n:Int) - 1) with
   | true =>
    rw [ha] at hat hst;replace ha:=zH ha;replace hat:=zH hat;rw [if_pos rfl] at hst;have hw1:IntKind.i64.wrap (Au (Ak s) ((n:Int) - 1) + 1) = Au (Ak s) n:=by rw [hst,IntKind.wrap_i64] <;> omega
    replace hst:=zH hst;go_wp2_with fail;refine hat.out.mono ?_;rintro e w5 ⟨rfl,g5⟩;have hsv:=Ef a l c n w5 (hl.out.gr (gA5.trans g5)) hal.out h8 ⟨by omega,by omega⟩;clear b0 b1 b2;by_cases tg:A0 (fun s => BI s (n:Int)) l≤Au (Ak s) n
    ·have tgb:decide (A0 (fun s => BI s (n:Int)) l≤Au (Ak s) n) = true:=decide_eq_true tg;have hdn:Bo s l = n:=F4 n1 hn (by unfold BN;exact tg) (fun k k1 k2 => Int.not_le.2 (hall.out k k1 k2));replace hdn:=zH hdn;replace hsv:=zH hsv;go_wp2_with fail;refine hsv.out.mono ?_;rintro e w6 ⟨rfl,g6⟩;go_wp2_with fail;go_ret2;exact ⟨by rw [hdn.out];rfl,(gA5.trans g5).trans g6⟩
    ·have tgb:decide (A0 (fun s => BI s (n:Int)) l≤Au (Ak s) n) = false:=decide_eq_false tg;have hall2:∀ j:Nat,1≤j→j < n + 1→Au (Ak s) j < BN l j:=fun j j1 j2 => by
      by_cases hj:j < n
      ·exact hall.out j j1 hj
      ·obtain rfl:j = n:=by omega
       unfold BN;exact Int.not_le.1 tg
     replace hall2:=zH hall2;replace hsv:=zH hsv;go_wp2_with fail;refine hsv.out.mono ?_;rintro e w6 ⟨rfl,g6⟩;go_wp2_with fail;go_roundw;case rel => exact ⟨n + 1,by omega,by omega,by rw [show ((n + 1:Nat):Int) - 1 = n by omega],by go_num,hall2.out,(hg5.trans g5).trans g6⟩
     case measure => simp [intOf];omega
   | false =>
    rw [ha] at hat hst;replace ha:=zH ha;replace hat:=zH hat;rw [if_neg (by decide),Int.add_zero] at hst;replace hst:=zH hst;go_wp2_with fail;refine hat.out.mono ?_;rintro e w5 ⟨rfl,g5⟩;have hsv:=Ef a l c n w5 (hl.out.gr (gA5.trans g5)) hal.out h8 ⟨by omega,by omega⟩;clear b0 b1 b2;by_cases tg:A0 (fun s => BI s (n:Int)) l≤Au (Ak s) ((n:Int) - 1)
    ·have tgb:decide (A0 (fun s => BI s (n:Int)) l≤Au (Ak s) ((n:Int) - 1)) = true:=decide_eq_true tg;have hdn:Bo s l = n:=F4 n1 hn (by unfold BN;rw [hst.out];exact tg) (fun k k1 k2 => Int.not_le.2 (hall.out k k1 k2));replace hdn:=zH hdn;replace hsv:=zH hsv;go_wp2_with fail;refine hsv.out.mono ?_;rintro e w6 ⟨rfl,g6⟩;go_wp2_with fail;go_ret2;exact ⟨by rw [hdn.out];rfl,(gA5.trans g5).trans g6⟩
    ·have tgb:decide (A0 (fun s => BI s (n:Int)) l≤Au (Ak s) ((n:Int) - 1)) = false:=decide_eq_false tg;have hall2:∀ j:Nat,1≤j→j < n + 1→Au (Ak s) j < BN l j:=fun j j1 j2 => by
      by_cases hj:j < n
      ·exact hall.out j j1 hj
      ·obtain rfl:j = n:=by omega
       unfold BN;rw [hst.out];exact Int.not_le.1 tg
     replace hall2:=zH hall2;replace hsv:=zH hsv;go_wp2_with fail;refine hsv.out.mono ?_;rintro e w6 ⟨rfl,g6⟩;go_wp2_with fail;go_roundw;case rel => exact ⟨n + 1,by omega,by omega,by rw [show ((n + 1:Nat):Int) - 1 = n by omega];rw [hst.out],by go_num,hall2.out,(hg5.trans g5).trans g6⟩
     case measure => simp [intOf];omega
  ·exact absurd hsome.out (Int.not_le.2 (hall.out 4096 (by omega) (by omega)))
theorem Ir (T:TM) (id:Int) (a:Option Addr) (l:List Ao) (c:Nat) (w:World) (hT:Av Any w T) (hp:∀ x ∈ T.N,1≤x.e.id) (hl:AJ w a l) (hm:l.length≤maxLen) :
 Calls Tryz.prog 55 #[.agg T.row,.int .i64 id,.slice a l.length c] w fun e w' => e = .returned (.bool (decide (Am ((T.v.server id).getD AU) l = none)))∧Gr w w':=by
 obtain ⟨S,hS⟩:=zE ((T.v.server id).getD AU);rw [← hS];obtain ⟨W,hW⟩:=zE (w.alloc (.cells #[.slice T.an T.N.length T.cn,.slice T.ag T.G.length T.cg,.int .i64 T.last,.int .i64 T.now] 27));have gW:Gr w W:=by rw [hW];exact (Gr.refl w).alloc _
 have hO:Ag W (w.heap.size) #[.slice T.an T.N.length T.cn,.slice T.ag T.G.length T.cg,.int .i64 T.last,.int .i64 T.now] 27:=by
  rw [hW];exact Ag.n0
 have hWz:W.heap.size = w.heap.size + 1:=by rw [hW];simp
 obtain ⟨o0,o1,o2,o3⟩:=hO.c4;have hsv:=G6 T id W (hT.gr gW) hp;obtain ⟨R,hR⟩:=zE (decide (Am S l = none));rw [← hR];refine Br ?_ hW hO hT hp hsv hl hS hR;clear hW hO hT hp hsv hl hS hR;intro hW hO hT hp hsv hl hS hR;replace hWz:=zH hWz;go_enter Tryz.func55,Tryz.ntmps55;go_upto_region 1 with fail
 rw [← hW.out];go_wp2_with fail;refine hsv.out.mono ?_;rintro e w1 ⟨s,hs,rfl,g1⟩;obtain rfl:s = S:=hs.trans hS.out.symm;clear hs o0 o1 o2 o3;have gA:=gW.trans g1;obtain ⟨w2,hw2⟩:=zE (w1.alloc (.cells #[.int .i64 s.k,.int .i64 s.q,.int .i64 s.t] 29));have g2:Gr w1 w2:=by rw [hw2];exact (Gr.refl _).alloc _
 have hB2:Ag w2 w1.heap.size #[.int .i64 s.k,.int .i64 s.q,.int .i64 s.t] 29:=by rw [hw2];exact Ag.new _ _ _
 have hkd:=Gf s a l c w2 (hl.out.gr (gA.trans g2)) hm;replace hw2:=zH hw2;replace hkd:=zH hkd;go_upto_region 2 with fail
 rw [← hw2.out];obtain ⟨b0,b1,b2⟩:=hB2.c3;replace hB2:=zH hB2;go_wp2_with fail;refine hkd.out.mono ?_;rintro e w3 ⟨cc,rfl,hcc,g3⟩;cases hRb:R with
 | true =>
  obtain rfl:cc = 0:=hcc.2 (of_decide_eq_true (hR.out.symm.trans hRb));clear hcc;replace hRb:=zH hRb;go_wp2_with fail;go_ret;exact ⟨by rw [hRb.out];rfl,(gA.trans g2).trans g3⟩
 | false =>
  have tcc:(cc == 0) = false:=by
   have h1:=of_decide_eq_false (hR.out.symm.trans hRb);have h2:cc ≠ 0:=fun h => h1 (hcc.1 h)
   simpa using h2
  clear hcc;replace hRb:=zH hRb;go_wp2_with fail;go_ret;exact ⟨by rw [hRb.out];rfl,(gA.trans g2).trans g3⟩
def StayP (B:Nat) (w:World) (T:TM) (p:Int) (e:Ending) (w':World):Prop:=∃ T':TM,e = .returned (.agg T'.row)∧T'.v = T.v.drained p∧A5 B w' T'∧Aw (T.ag.map (·.block)).toList w w'
theorem Iq (T:TM) (p:Int) (B:Nat) (w:World) (h:A5 B w T) (hp:∀ x ∈ T.N,1≤x.e.id) (hk:Am ((T.v.server p).getD AU) (T.v.counted p) = none) (hn1:0≤T.now) (hn2:T.now≤1099511627776) :
 Calls Tryz.prog 56 #[.agg T.row,.int .i64 p] w (StayP B w T p):=by
 obtain ⟨W,hW⟩:=zE ((w.alloc (.cells #[.slice T.an T.N.length T.cn,.slice T.ag T.G.length T.cg,.int .i64 T.last,.int .i64 T.now] 27)).alloc (.cells #[.slice none 0 0,.slice none 0 0,.int .i64 0,.int .i64 0] 27));have gW:Gr w W:=by rw [hW];exact ((Gr.refl w).alloc _).alloc _
 have hO:Ag W (w.heap.size) #[.slice T.an T.N.length T.cn,.slice T.ag T.G.length T.cg,.int .i64 T.last,.int .i64 T.now] 27:=by
  rw [hW];exact (Ag.n0).alloc _
 have hR:Ag W (w.heap.size + 1) #[.slice none 0 0,.slice none 0 0,.int .i64 0,.int .i64 0] 27:=by
  rw [hW];exact Ag.n1
 have hWz:W.heap.size = w.heap.size + 2:=by rw [hW];simp
 obtain ⟨o0,o1,o2,o3⟩:=hO.c4;obtain ⟨S,hS⟩:=zE ((T.v.server p).getD AU);obtain ⟨L,hL⟩:=zE (T.v.counted p);rw [← hS,← hL] at hk;have hLl:L.length≤2000000:=by
  have h1:=Cj T.N p T.N.length;have h2:=Ct T.G p T.G.length;have h3:=h.l1;have h4:=h.l2;rw [hL,CP,List.length_append];omega
 obtain ⟨dd,hdd⟩:=zE (Bo S L);have hddl:dd≤4096:=by rw [hdd];exact IH S L
 have hdr:T.v.drained p = ⟨T.v.nodes,T.G.map (Bz p (T.now + dd)),T.last,T.now⟩:=by
  unfold Ab.drained;dsimp only;rw [← hS,← hL,hk,if_pos rfl,← hdd];rfl
 have hsv:=G6 T p W (h.gr gW).at.any hp;have hcn:=fun w' (g:Gr W w') => B4 T p w' ((h.gr gW).gr g).at.any
 rw [← hL] at hcn;have hdn:=fun a c w' (hl:AJ w' a L) => Gj S a L c w' hl hk (by unfold maxLen;omega)
 rw [← hdd] at hdn;have hWs:W.heap.size = w.heap.size + 2:=hWz;have hGl:=h.l2;have hbl:=Ar h.g;refine Br ?_ hW hO hR h hp hk hS hL;clear hW hO hR h hp hk hS hL;intro hW hO hR h hp hk hS hL;refine Fm ?_ hdd hdr hsv hcn hdn hWz hbl;clear hdd hdr hsv hcn hdn hWz hbl;intro hdd hdr hsv hcn hdn hWz hbl;go_enter Tryz.func56,Tryz.ntmps56;go_upto_region 1 with fail
 rw [← hW.out];go_wp2_with fail;refine hsv.out.mono ?_;rintro e w1 ⟨s,hs,rfl,g1⟩;obtain rfl:s = S:=hs.trans hS.out.symm;clear hs o0 o1 o2 o3;obtain ⟨w2,hw2⟩:=zE (w1.alloc (.cells #[.int .i64 s.k,.int .i64 s.q,.int .i64 s.t] 29));have g2:Gr w1 w2:=by rw [hw2];exact (Gr.refl _).alloc _
 have hS2:Ag w2 w1.heap.size #[.int .i64 s.k,.int .i64 s.q,.int .i64 s.t] 29:=by rw [hw2];exact Ag.new _ _ _
 have hO2:=(hO.out.gr g1).gr g2;have g1z:=g1.size;obtain ⟨d0,d1,d2,d3⟩:=hO2.c4;obtain ⟨b0,b1,b2⟩:=hS2.c3;refine AZ ?_ hw2 hS2 hO2;clear hw2 hS2 hO2;intro hw2 hS2 hO2;go_upto_region 2 with fail
 rw [← hw2.out];go_region_held3 (fun w' => w'.cell? ⟨w.heap.size,0,none⟩ = some (.slice T.an T.N.length T.cn)∧w'.cell? ⟨w.heap.size,1,none⟩ = some (.slice T.ag T.G.length T.cg)∧w'.cell? ⟨w.heap.size,2,none⟩ = some (.int .i64 T.last)∧w'.cell? ⟨w.heap.size,3,none⟩ = some (.int .i64 T.now)∧w'.cell? ⟨w1.heap.size,0,none⟩ = some (.int .i64 s.k)∧w'.cell? ⟨w1.heap.size,1,none⟩ = some (.int .i64 s.q)∧w'.cell? ⟨w1.heap.size,2,none⟩ = some (.int .i64 s.t)) (simp (maxDischargeDepth:=8) [go_sem, *])
  (first
   | (go_at_call 53;(with_reducible refine (hcn.out _ ((g1.trans g2).drew)).mono ?_);rintro e w3 ⟨a3,k3,rfl,hO3,g3⟩;have hT3:=(hO2.out.drew).gr g3;have hS3:=(hS2.out.drew).gr g3;obtain ⟨e0,e1,e2,e3⟩:=hT3.c4;obtain ⟨f0,f1,f2⟩:=hS3.c3;refine AZ ?_ hT3 hS3 hO3;clear hT3 hS3 hO3;intro hT3 hS3 hO3)
   | (go_at_call 58;(with_reducible refine (hdn.out a3 k3 w3 (BJ hO3.out)).mono ?_);rintro e w4 ⟨rfl,g4⟩;have hT4:=hT3.out.gr g4;have hS4:=hS3.out.gr g4;obtain ⟨m0,m1,m2,m3⟩:=hT4.c4;obtain ⟨n0,n1,n2⟩:=hS4.c3;replace hT4:=zH hT4;replace hS4:=zH hS4)
   | fail)
 clear d0 d1 d2 d3 e0 e1 e2 e3 m0 m2 m3 b0 b1 b2 f0 f1 f2 n0 n1 n2;have gA4:Gr W w4:=((g1.trans g2).drew.trans g3).trans g4;have gw4:=gW.trans gA4;go_wp2_with fail;clear m1;go_loopw [27] (fun iv wr => ∃ i:Nat,i≤T.G.length∧iv = .int .i64 i∧Hid (A5 B wr ⟨T.N,T.an,T.cn,(T.G.take i).map (Bz p (T.now + dd)) ++ T.G.drop i,T.ag,T.cg,T.last,T.now⟩)∧Aw (T.ag.map (·.block)).toList w4 wr) (fun iv _ => T.G.length - (intOf iv).toNat);case atStart => exact ⟨0,Nat.zero_le _,rfl,Lib.hid (by simpa using h.out.gr gw4),Aw.refl _ _⟩
 case round =>
  obtain ⟨i,hi,rfl,hT,hg⟩:=hrel;have hMl:((T.G.take i).map (Bz p (T.now + dd)) ++ T.G.drop i).length = T.G.length:=by simp;omega
  have hin:∀ y,y ∈ (T.ag.map (·.block)).toList→y < w.heap.size∧B≤y:=fun y hy => by
   cases hta:T.ag with
   | none => rw [hta] at hy;cases hy
   | some q => rw [hta] at hy;simp at hy;subst hy;exact hbl.out _ (by rw [hta];rfl)
  have hOr:=(hT4.out.grx hg (fun hm => by have:=(hin _ hm).1;omega))
  have hRr:=((((hR.out.gr g1).gr g2).drew.gr g3).gr g4).grx hg (fun hm => by have:=(hin _ hm).1;omega);replace hin:=zH hin;obtain ⟨y0,y1,y2,y3⟩:=hOr.c4;replace hRr:=zH hRr;by_cases hlt:i < T.G.length
  ·obtain ⟨x,hx⟩:=Ac T.G i hlt;have hxM:=JG (p:=p) (m:=T.now + dd) hx;obtain ⟨gb,hag⟩:∃ gb,T.ag = some ⟨gb,0,none⟩:=by
    rcases h.out.g.2 with ⟨h1,h2⟩ | ⟨gb,cap,cur,h1,_⟩
    ·omega
    ·injection h1 with h1;exact ⟨gb,h1⟩
   obtain ⟨b3,off3,e3,hbl3,-,c0,c1,c2,c3,c4⟩:=CF hT.out.at.g hxM;dsimp only at e3;rw [hag] at e3 y1;cases e3
   simp only [Nat.zero_add] at c0 c1 c2 c3 c4;have hgbz:gb < w.heap.size∧B≤gb:=hbl.out gb (by rw [hag];rfl);obtain ⟨hgb1,hgb2⟩:=hgbz;have hgt:gb ≠ w.heap.size:=by omega
   have ff:∀ o,wr.frozen? ⟨gb,o,none⟩ = false:=fun o => BE (by have:=hT.out.g;dsimp only at this;rw [hag] at this;exact this) rfl o
   have ti:(i:Int) < T.G.length:=by omega
   have hst:=Io (p:=p) (m:=T.now + dd) hx;have hwr:IntKind.i64.wrap (T.now + (dd:Int)) = T.now + dd:=by rw [IntKind.wrap_i64];omega
   refine Fm ?_ hOr hx hxM hag hst hMl hbl;clear hOr hx hxM hag hst hMl hbl;intro hOr hx hxM hag hst hMl hbl;by_cases hpx:x.par = p
   ·have tp:(x.par == p) = true:=by simpa using hpx
    by_cases htl:x.till < T.now + dd
    ·have ttl:decide (x.till < T.now + dd) = true:=decide_eq_true htl;have hsx:Bz p (T.now + dd) x = ⟨x.par,x.srv,T.now + dd⟩:=by unfold Bz;rw [if_pos hpx,Int.max_eq_right (Int.le_of_lt htl)]
     replace hsx:=zH hsx;go_wp2_with fail;go_quiet (fail);go_wp2_with fail;go_roundw;case rel => exact ⟨i + 1,by omega,by go_num,Lib.hid (by
      have h1:=hst.out;rw [hsx.out] at h1;rw [← h1];exact (Hh (hT.out.gr ((Gr.refl _).drewN _)) hag.out hxM.out (T.now + dd) rfl).2),(hg.drewN _).trans (by
      rw [hag.out];exact (Hh (hT.out.gr ((Gr.refl _).drewN _)) hag.out hxM.out (T.now + dd) rfl).1)⟩
     case measure => simp [intOf];omega
    ·have ttl:decide (x.till < T.now + dd) = false:=decide_eq_false htl;have hsx:Bz p (T.now + dd) x = x:=by unfold Bz;rw [if_pos hpx,Int.max_eq_left (by omega)]
     replace hsx:=zH hsx;go_wp2_with fail;go_quiet (fail);go_wp2_with fail;go_roundw;case rel => exact ⟨i + 1,by omega,by go_num,Lib.hid (by
      have h1:=hst.out;rw [hsx.out,G4 hxM.out] at h1;rw [← h1];exact hT.out.gr ((Gr.refl _).drewN _)),hg.drewN _⟩
     case measure => simp [intOf];omega
   ·have tp:(x.par == p) = false:=by simpa using hpx
    have hsx:Bz p (T.now + dd) x = x:=by unfold Bz;rw [if_neg hpx]
    replace hsx:=zH hsx;go_wp2_with fail;go_quiet (fail);go_wp2_with fail;go_roundw;case rel => exact ⟨i + 1,by omega,by go_num,Lib.hid (by
     have h1:=hst.out;rw [hsx.out,G4 hxM.out] at h1;rw [← h1];exact hT.out.gr ((Gr.refl _).drewN _)),hg.drewN _⟩
    case measure => simp [intOf];omega
  ·have hie:i = T.G.length:=by omega
   have ti:¬ (i:Int) < T.G.length:=by omega
   have tib:decide ((i:Int) < T.G.length) = false:=decide_eq_false ti;obtain ⟨r0,r1,r2,r3⟩:=hRr.out.c4;have fr:=fun i => hRr.out.free i
   refine AZ ?_ hOr hMl hie;clear hOr hMl hie;intro hOr hMl hie;go_wp2_with fail;obtain ⟨w9,hw9⟩:=zE ((((wr.setCell ⟨w.heap.size + 1,0,none⟩ (.slice T.an T.N.length T.cn)).setCell ⟨w.heap.size + 1,1,none⟩ (.slice T.ag T.G.length T.cg)).setCell ⟨w.heap.size + 1,2,none⟩ (.int .i64 T.last)).setCell ⟨w.heap.size + 1,3,none⟩ (.int .i64 T.now));rw [← hw9];have gxw9:Aw [w.heap.size + 1] wr w9:=by
    rw [hw9];exact (((((Aw.refl _ _).set (.inl (by simp)) _).set (.inl (by simp)) _).set (.inl (by simp)) _).set (.inl (by simp)) _)
   have hR9:Ag w9 (w.heap.size + 1) #[.slice T.an T.N.length T.cn,.slice T.ag T.G.length T.cg,.int .i64 T.last,.int .i64 T.now] 27:=by
    rw [hw9];exact ((((hRr.out.set 0 (.slice T.an T.N.length T.cn)).set 1 (.slice T.ag T.G.length T.cg)).set 2 (.int .i64 T.last)).set 3 (.int .i64 T.now))
   obtain ⟨d0,d1,d2,d3⟩:=hR9.c4;refine bodyPost_ret (v:=.agg T.row) (by simp [results,Tryz.results56,go_sem,d0,d1,d2,d3]) rfl ?_;refine ⟨⟨T.N,T.an,T.cn,(T.G.take i).map (Bz p (T.now + dd)) ++ T.G.drop i,T.ag,T.cg,T.last,T.now⟩,by show _ = Ending.returned (.agg #[_,.slice T.ag ((T.G.take i).map (Bz p (T.now + dd)) ++ T.G.drop i).length T.cg,_,_]);rw [hMl.out],by rw [hdr.out,hie.out,List.take_length,List.drop_length,List.append_nil],hT.out.far gxw9 (n0:=w.heap.size) (fun y hy => by simp at hy;omega) (fun k hk => (Ar h.out.n k hk).1) (fun k hk => (hbl.out k (by rw [← hk];exact (J9 _ _ _ _).symm)).1) (fun x hx ad ha ht => (h.out.k x hx).1.1.lt ha ht),(((gw4.x _).trans hg).new gxw9 (fun y hy => by simp at hy;omega))⟩
end Go.Proofs.YtdfelohjdkcpkaaGreatDoor
