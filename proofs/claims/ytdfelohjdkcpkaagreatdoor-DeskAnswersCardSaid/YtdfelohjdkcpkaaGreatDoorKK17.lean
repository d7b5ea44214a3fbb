/- tree.bind. Printed by gen_t23.py. -/
import Derived.Test.YtdfelohjdkcpkaaGreatDoorKK16
set_option maxRecDepth 100000
set_option maxHeartbeats 12800000
namespace Go.Proofs.YtdfelohjdkcpkaaGreatDoor
open Go.RowKit
theorem LS {B:Nat} {w:World} {T:TM} {nb i:Nat} {x:Ax} (h:A5 B w T) (hnb:T.an = some ⟨nb,0,none⟩) (hx:T.N[i]? = some x) (p:Int) {w':World} (hw:w' = w.setCell ⟨nb,i * 7 + 5,none⟩ (.int .i64 p)):Aw [nb] w w'∧A5 B w' ⟨T.N.set i ⟨{x.e with pol:=p},x.a,x.c⟩,T.an,T.cn,T.G,T.ag,T.cg,T.last,T.now⟩:=by
 have g:Aw [nb] w w':=by rw [hw];exact (Aw.refl _ _).set (.inl (by simp)) _
 have hm:=List.mem_of_getElem? hx;have hob:(Value.slice T.an T.N.length T.cn).ownBlock = some nb:=by rw [hnb];rfl
 have hd:∀ ad,x.a = some ad→x.e.tasks ≠ []→ad.block ∉ [nb]:=fun ad ha ht hm2 => h.d x hm ad ha ht (by rw [hob,List.mem_singleton.1 hm2])
 refine ⟨g,Hj h hnb g ?_ ((h.k x hm).but g hd) (fun ad ha ht => ⟨h.d x hm ad ha ht,h.dg x hm ad ha ht,fun o => by rw [g.frozen ((h.k x hm).1.1.lt ha ht) (hd ad ha ht)];exact h.f x hm ad ha ht o⟩)⟩;have h0:=h.n;rw [hnb] at h0 ⊢;have h3:=BP h0 (i * 7 + 5) (.int .i64 p);rw [hw];rw [CW Ax.cells_len hx (j:=5) (by decide) (v:=.int .i64 p) (y:=⟨{x.e with pol:=p},x.a,x.c⟩) rfl] at h3;exact h3
theorem LR {B:Nat} {w:World} {T:TM} {nb i:Nat} {x:Ax} (h:A5 B w T) (hnb:T.an = some ⟨nb,0,none⟩) (hx:T.N[i]? = some x) (l:List AA) (a:Option Addr) (c:Nat) (hk:(⟨{x.e with tasks:=l},a,c⟩:Ax).ok (fun b => B≤b) w) (hq:∀ ad,a = some ad→l ≠ []→nb ≠ ad.block∧(Value.slice T.ag T.G.length T.cg).ownBlock ≠ some ad.block∧∀ o,w.frozen? ⟨ad.block,o,none⟩ = false) {w':World} (hw:w' = w.setCell ⟨nb,i * 7 + 6,none⟩ (.slice a l.length c)):Aw [nb] w w'∧A5 B w' ⟨T.N.set i ⟨{x.e with tasks:=l},a,c⟩,T.an,T.cn,T.G,T.ag,T.cg,T.last,T.now⟩:=by
 have g:Aw [nb] w w':=by rw [hw];exact (Aw.refl _ _).set (.inl (by simp)) _
 have hob:(Value.slice T.an T.N.length T.cn).ownBlock = some nb:=by rw [hnb];rfl
 have hd:∀ ad,a = some ad→l ≠ []→ad.block ∉ [nb]:=fun ad ha ht hm2 => (hq ad ha ht).1 (List.mem_singleton.1 hm2).symm
 refine ⟨g,Hj h hnb g ?_ (hk.but g hd) (fun ad ha ht => ⟨fun e => (hq ad ha ht).1 (by rw [hob] at e;exact Option.some.inj e),(hq ad ha ht).2.1,fun o => by rw [g.frozen (hk.1.1.lt ha ht) (hd ad ha ht)];exact (hq ad ha ht).2.2 o⟩)⟩;have h0:=h.n;rw [hnb] at h0 ⊢;have h3:=BP h0 (i * 7 + 6) (.slice a l.length c);rw [hw];rw [CW Ax.cells_len hx (j:=6) (by decide) (v:=.slice a l.length c) (y:=⟨{x.e with tasks:=l},a,c⟩) rfl] at h3;exact h3
theorem O6 {G:List Nat} {E:Nat→Addr} (W0:World) (hE:CK G E W0) (i4:10 ∈ G) (T:TM) (w:World) (tb B:Nat) (h:Bn B w tb T) (g0:Gr W0 w) (hs:EF T.N) (o:A8) (oa:Option Addr) (oc:Nat) (hta:Al 4 AA.cells w oa o.tasks) (hom:o.tasks.length * 32≤140737488351232) (hgo:AW o.pol o.tasks = false) :
 Calls Tryz.prog 96 #[.pointer (some ⟨tb,0,none⟩),.agg #[.int .i64 o.kd,.int .i64 o.id,.int .i64 o.srv.k,.int .i64 o.srv.q,.int .i64 o.srv.t,.int .i64 o.pol,.slice oa o.tasks.length oc,.int .i64 o.at_]] w (KJ B W0 tb (T.v.bind o)):=by
 obtain ⟨V,hV⟩:=zE (T.v.bind o);rw [← hV];obtain ⟨W,hW⟩:=zE ((w.alloc (.cells #[.int .i64 o.kd,.int .i64 o.id,.int .i64 o.srv.k,.int .i64 o.srv.q,.int .i64 o.srv.t,.int .i64 o.pol,.slice oa o.tasks.length oc,.int .i64 o.at_] 32)).alloc (.cells #[.int .i64 0,.int .i64 0] 34));have gA:Gr w W:=by rw [hW];exact ((Gr.refl w).alloc _).alloc _
 have hOW:Ag W w.heap.size #[.int .i64 o.kd,.int .i64 o.id,.int .i64 o.srv.k,.int .i64 o.srv.q,.int .i64 o.srv.t,.int .i64 o.pol,.slice oa o.tasks.length oc,.int .i64 o.at_] 32:=by rw [hW];exact (Ag.new w _ _).alloc _
 have hRW:Ag W (w.heap.size + 1) #[.int .i64 0,.int .i64 0] 34:=by
  rw [hW];exact Ag.n1
 have hTW:=h.gr gA;have gWW:=g0.trans gA;have hg0z:=g0.size;have hWz:W.heap.size = w.heap.size + 2:=by rw [hW];simp
 have hlt:∀ y,Dq tb T y→y < w.heap.size:=fun y hy => Dd h hy
 refine Br ?_ hW hOW hRW hTW hlt h hV hWz;clear hW hOW hRW hTW hlt h hV hWz;intro hW hOW hRW hTW hlt h hV hWz;replace hs:=zH hs;have hmm:o.tasks.length≤maxLen:=by unfold maxLen;omega
 have htW:=(AC.grx (K:=Any) ⟨hta,fun _ _ _ => trivial⟩ (gA.x []) (fun _ h => by cases h)).1;have hck:=E6 o.pol oa o.tasks oc W (hE.gr gWW) i4 (DH htW) hmm hgo;refine B0 ?_ hck htW hta hgo;clear hck htW hta hgo;intro hck htW hta hgo;obtain ⟨c0,c1,c2,c3⟩:=hTW.out.o.c4;obtain ⟨o0,o1,o2,o3,o4,o5,o6,o7⟩:=hOW.out.c8;go_enter Tryz.func96,Tryz.ntmps96;go_upto_region 1 with fail
 rw [← hW.out];go_wp2_with fail;refine hck.out.mono ?_;rintro e w1 ⟨rfl,g1⟩;clear c0 c1 c2 c3 o0 o1 o2 o3 o4 o5 o6 o7;have hT1:=hTW.out.gr g1;have zt1:=hT1.o.lt;have hO1:=hOW.out.gr g1;have zo1:=hO1.lt;have hR1:=hRW.out.gr g1;have gW1:=gWW.trans g1;refine AZ ?_ hT1 hO1 hR1;clear hT1 hO1 hR1;intro hT1 hO1 hR1;go_wp2_with fail;refine (AG 8 _).mono ?_;rintro e wz ⟨rfl,gz⟩;have hRz:=hR1.out.gr gz;have hTz:=hT1.out.gr gz;have gWz:=gW1.trans gz;obtain ⟨r0,r1⟩:=hRz.c2;have rf:=fun i => hRz.free i
 replace hRz:=zH hRz;replace hTz:=zH hTz;go_wp2_with fail;have hR9:Ag ((wz.setCell ⟨w.heap.size + 1,0,none⟩ (.int .i64 8)).setCell ⟨w.heap.size + 1,1,none⟩ (.int .i64 0)) (w.heap.size + 1) #[.int .i64 8,.int .i64 0] 34:=(hRz.out.set 0 (.int .i64 8)).set 1 (.int .i64 0);have gx:Aw [w.heap.size + 1] wz ((wz.setCell ⟨w.heap.size + 1,0,none⟩ (.int .i64 8)).setCell ⟨w.heap.size + 1,1,none⟩ (.int .i64 0)):=((Aw.refl _ _).set (.inl (by simp)) _).set (.inl (by simp)) _;obtain ⟨q0,q1⟩:=hR9.c2;refine bodyPost_ret (v:=.agg #[.int .i64 8,.int .i64 0]) (by simp [results,Tryz.results96,go_sem,q0,q1]) rfl ?_;have hVe:V = (T.v,8,0):=by rw [hV.out];unfold Ab.bind;rw [if_pos hgo.out]
 rw [hVe];exact ⟨rfl,T,hTz.out.away gx (fun y hy ht => by have:=hlt.out y ht;simp at hy;omega),rfl,gx.all gWz (fun y hy => by simp at hy;have:=hg0z;omega)⟩
theorem O5 {G:List Nat} {E:Nat→Addr} (W0:World) (hE:CK G E W0) (i0:9 ∈ G) (i1:11 ∈ G) (i4:10 ∈ G) (T:TM) (w:World) (tb B:Nat) (h:Bn B w tb T) (hB0:W0.heap.size≤B) (g0:Gr W0 w) (hs:EF T.N) (o:A8) (oa:Option Addr) (oc:Nat) (hta:Al 4 AA.cells w oa o.tasks) (hoc:oa = none→oc = 0) (hto:∀ ad,oa = some ad→o.tasks ≠ []→ad.block < B) (hom:o.tasks.length * 32≤140737488351232) (hgo:AW o.pol o.tasks = true) :
 Calls Tryz.prog 96 #[.pointer (some ⟨tb,0,none⟩),.agg #[.int .i64 o.kd,.int .i64 o.id,.int .i64 o.srv.k,.int .i64 o.srv.q,.int .i64 o.srv.t,.int .i64 o.pol,.slice oa o.tasks.length oc,.int .i64 o.at_]] w (KJ B W0 tb (T.v.bind o)):=by
 obtain ⟨V,hV⟩:=zE (T.v.bind o);rw [← hV];obtain ⟨W,hW⟩:=zE ((w.alloc (.cells #[.int .i64 o.kd,.int .i64 o.id,.int .i64 o.srv.k,.int .i64 o.srv.q,.int .i64 o.srv.t,.int .i64 o.pol,.slice oa o.tasks.length oc,.int .i64 o.at_] 32)).alloc (.cells #[.int .i64 0,.int .i64 0] 34));have gA:Gr w W:=by rw [hW];exact ((Gr.refl w).alloc _).alloc _
 have hOW:Ag W w.heap.size #[.int .i64 o.kd,.int .i64 o.id,.int .i64 o.srv.k,.int .i64 o.srv.q,.int .i64 o.srv.t,.int .i64 o.pol,.slice oa o.tasks.length oc,.int .i64 o.at_] 32:=by rw [hW];exact (Ag.new w _ _).alloc _
 have hRW:Ag W (w.heap.size + 1) #[.int .i64 0,.int .i64 0] 34:=by
  rw [hW];exact Ag.n1
 have hTW:=h.gr gA;have gWW:=g0.trans gA;have hg0z:=g0.size;have hWz:W.heap.size = w.heap.size + 2:=by rw [hW];simp
 have hlt:∀ y,Dq tb T y→y < w.heap.size:=fun y hy => Dd h hy
 refine Br ?_ hW hOW hRW hTW hlt h hV hWz;clear hW hOW hRW hTW hlt h hV hWz;intro hW hOW hRW hTW hlt h hV hWz;replace hs:=zH hs;have hmm:o.tasks.length≤maxLen:=by unfold maxLen;omega
 have htW:=(AC.grx (K:=Any) ⟨hta,fun _ _ _ => trivial⟩ (gA.x []) (fun _ h => by cases h)).1;have hck:=Ck o.pol oa o.tasks oc W (DH htW) hgo;refine Dn ?_ hck htW hta hgo hoc hto;clear hck htW hta hgo hoc hto;intro hck htW hta hgo hoc hto;obtain ⟨c0,c1,c2,c3⟩:=hTW.out.o.c4;obtain ⟨o0,o1,o2,o3,o4,o5,o6,o7⟩:=hOW.out.c8;go_enter Tryz.func96,Tryz.ntmps96;go_upto_region 1 with fail
 rw [← hW.out];go_wp2_with fail;refine hck.out.mono ?_;rintro e w1 ⟨rfl,g1⟩;clear c0 c1 c2 c3 o0 o1 o2 o3 o4 o5 o6 o7;have hT1:=hTW.out.gr g1;have zt1:=hT1.o.lt;have hO1:=hOW.out.gr g1;have zo1:=hO1.lt;have hR1:=hRW.out.gr g1;have gW1:=gWW.trans g1;refine AZ ?_ hT1 hO1 hR1;clear hT1 hO1 hR1;intro hT1 hO1 hR1;obtain ⟨c0,c1,c2,c3⟩:=hT1.out.o.c4;obtain ⟨o0,o1,o2,o3,o4,o5,o6,o7⟩:=hO1.out.c8;obtain ⟨Z,hZ⟩:=zE (T.v.loose o.id);have hls:=F0 T o.id w1 tb B hT1.out hs.out;replace hZ:=zH hZ;replace hls:=zH hls;go_wp2_with fail;refine hls.out.mono ?_;rintro e w2 ⟨g2,hq⟩;rw [← hZ.out] at hq;clear c0 c1 c2 c3 o0 o1 o2 o3 o4 o5 o6 o7;have hT2:=hT1.out.gr g2;have zt2:=hT2.o.lt;have hO2:=hO1.out.gr g2;have zo2:=hO2.lt;have hR2:=hR1.out.gr g2;have gW2:=gW1.trans g2;refine AZ ?_ hT2 hO2 hR2;clear hT2 hO2 hR2;intro hT2 hO2 hR2;rcases hq with ⟨hz,rfl⟩ | ⟨hz,nb,i,x,hnb,hx,hid,rfl⟩
 ·have tz:(Z != 0) = true:=by simpa using hz
  replace hz:=zH hz;go_wp2_with fail;refine (AG Z _).mono ?_;rintro e wz ⟨rfl,gz⟩;have hRz:=hR2.out.gr gz;have hTz:=hT2.out.gr gz;have gWz:=gW2.trans gz;obtain ⟨r0,r1⟩:=hRz.c2;have rf:=fun i => hRz.free i
  replace hRz:=zH hRz;replace hTz:=zH hTz;go_wp2_with fail;have hR9:Ag ((wz.setCell ⟨w.heap.size + 1,0,none⟩ (.int .i64 Z)).setCell ⟨w.heap.size + 1,1,none⟩ (.int .i64 0)) (w.heap.size + 1) #[.int .i64 Z,.int .i64 0] 34:=(hRz.out.set 0 (.int .i64 Z)).set 1 (.int .i64 0);have gx:Aw [w.heap.size + 1] wz ((wz.setCell ⟨w.heap.size + 1,0,none⟩ (.int .i64 Z)).setCell ⟨w.heap.size + 1,1,none⟩ (.int .i64 0)):=((Aw.refl _ _).set (.inl (by simp)) _).set (.inl (by simp)) _;obtain ⟨q0,q1⟩:=hR9.c2;refine bodyPost_ret (v:=.agg #[.int .i64 Z,.int .i64 0]) (by simp [results,Tryz.results96,go_sem,q0,q1]) rfl ?_;have hVe:V = (T.v,Z,0):=by rw [hV.out];unfold Ab.bind;rw [if_neg (by rw [hgo.out];decide),if_pos (by rw [← hZ.out];exact hz.out),hZ.out]
  rw [hVe];exact ⟨rfl,T,hTz.out.away gx (fun y hy ht => by have:=hlt.out y ht;simp at hy;omega),rfl,gx.all gWz (fun y hy => by simp at hy;have:=hg0z;omega)⟩
 ·have hfx:=Dh hs.out hx hid;refine DT ?_ hnb hx hid hz hfx;clear hnb hx hid hz hfx;intro hnb hx hid hz hfx;obtain ⟨kz,k0,k1,k2,k3,k4,k5,k6⟩:=B6 hT2.out.t hnb.out hx.out;by_cases hpol:x.e.pol = 0
  ·have tp:(x.e.pol != 0) = false:=by simpa using hpol
   replace hpol:=zH hpol;obtain ⟨c0,c1,c2,c3⟩:=hT2.out.o.c4;obtain ⟨o0,o1,o2,o3,o4,o5,o6,o7⟩:=hO2.out.c8;have gd2:Gr w2 w2.drew:=(Gr.refl w2).drew;have gW2d:=gW2.trans gd2;have g12:=(g1.trans g2).trans gd2;have htd:=(AC.grx (K:=Any) ⟨htW.out,fun _ _ _ => trivial⟩ (g12.x []) (fun _ h => by cases h)).1;have hgs:=MY x.e.srv o.pol oa o.tasks oc w2.drew (hE.gr gW2d) i0 i1 i4 (DH htd) hmm;replace htd:=zH htd;cases hk:Bb x.e.srv o.pol o.tasks with
   | some ge =>
    rw [hk] at hgs;have hgt:Ok E (some ge) = (.iface 384 (.pointer (some (E ge)))):=rfl;rw [hgt] at hgs;replace hgs:=zH hgs;replace hk:=zH hk;go_upto_region 8 with fail
    go_region_held3 (fun w' => w'.cell? ⟨tb,0,none⟩ = some (.slice T.an T.N.length T.cn)∧w'.cell? ⟨tb,1,none⟩ = some (.slice T.ag T.G.length T.cg)∧w'.cell? ⟨tb,2,none⟩ = some (.int .i64 T.last)∧w'.cell? ⟨tb,3,none⟩ = some (.int .i64 T.now)∧w'.cell? ⟨w.heap.size,0,none⟩ = some (.int .i64 o.kd)∧w'.cell? ⟨w.heap.size,1,none⟩ = some (.int .i64 o.id)∧w'.cell? ⟨w.heap.size,2,none⟩ = some (.int .i64 o.srv.k)∧w'.cell? ⟨w.heap.size,3,none⟩ = some (.int .i64 o.srv.q)∧w'.cell? ⟨w.heap.size,4,none⟩ = some (.int .i64 o.srv.t)∧w'.cell? ⟨w.heap.size,5,none⟩ = some (.int .i64 o.pol)∧w'.cell? ⟨w.heap.size,6,none⟩ = some (.slice oa o.tasks.length oc)∧w'.cell? ⟨w.heap.size,7,none⟩ = some (.int .i64 o.at_)∧w'.cell? ⟨nb,i * 7,none⟩ = some (.int .i64 x.e.id)∧w'.cell? ⟨nb,i * 7 + 1,none⟩ = some (.int .i64 x.e.par)∧w'.cell? ⟨nb,i * 7 + 2,none⟩ = some (.int .i64 x.e.srv.k)∧w'.cell? ⟨nb,i * 7 + 3,none⟩ = some (.int .i64 x.e.srv.q)∧w'.cell? ⟨nb,i * 7 + 4,none⟩ = some (.int .i64 x.e.srv.t)∧w'.cell? ⟨nb,i * 7 + 5,none⟩ = some (.int .i64 x.e.pol)∧w'.cell? ⟨nb,i * 7 + 6,none⟩ = some (.slice x.a x.e.tasks.length x.c)) (simp (maxDischargeDepth:=8) [go_sem, *])
     (first
      | (go_at_call 170;(with_reducible refine hgs.out.mono ?_);rintro e w3 ⟨rfl,gc⟩;have gq:Gr w2 w3:=gd2.trans gc;have gq23:=Lib.hid gq;have hT3:=hT2.out.gr gq;have zt3:=hT3.o.lt;have hO3:=hO2.out.gr gq;have zo3:=hO3.lt;have hR3:=hR2.out.gr gq;have gW3:=gW2.trans gq;refine AZ ?_ hT3 hO3 hR3;clear hT3 hO3 hR3;intro hT3 hO3 hR3;obtain ⟨m0,m1,m2,m3⟩:=hT3.out.o.c4;obtain ⟨n0,n1,n2,n3,n4,n5,n6,n7⟩:=hO3.out.c8;obtain ⟨knz,kn0,kn1,kn2,kn3,kn4,kn5,kn6⟩:=B6 hT3.out.t hnb.out hx.out)
      | fail)
    clear c0 c1 c2 c3 o0 o1 o2 o3 o4 o5 o6 o7;clear m0 m1 m2 m3 n0 n1 n2 n3 n4 n5 n6 n7;clear kz k0 k1 k2 k3 k4 k5 k6;clear knz kn0 kn1 kn2 kn3 kn4 kn5 kn6;clear tp;go_wp2_with fail;refine (AG 4 _).mono ?_;rintro e wz ⟨rfl,gz⟩;have hRz:=hR3.out.gr gz;have hTz:=hT3.out.gr gz;have gWz:=gW3.trans gz;obtain ⟨r0,r1⟩:=hRz.c2;have rf:=fun i => hRz.free i
    replace hRz:=zH hRz;replace hTz:=zH hTz;go_wp2_with fail;have hR9:Ag ((wz.setCell ⟨w.heap.size + 1,0,none⟩ (.int .i64 4)).setCell ⟨w.heap.size + 1,1,none⟩ (.int .i64 0)) (w.heap.size + 1) #[.int .i64 4,.int .i64 0] 34:=(hRz.out.set 0 (.int .i64 4)).set 1 (.int .i64 0);have gx:Aw [w.heap.size + 1] wz ((wz.setCell ⟨w.heap.size + 1,0,none⟩ (.int .i64 4)).setCell ⟨w.heap.size + 1,1,none⟩ (.int .i64 0)):=((Aw.refl _ _).set (.inl (by simp)) _).set (.inl (by simp)) _;obtain ⟨q0,q1⟩:=hR9.c2;refine bodyPost_ret (v:=.agg #[.int .i64 4,.int .i64 0]) (by simp [results,Tryz.results96,go_sem,q0,q1]) rfl ?_;have hVe:V = (T.v,4,0):=by rw [hV.out];unfold Ab.bind;rw [if_neg (by rw [hgo.out];decide),if_neg (by rw [← hZ.out,hz.out];simp),hfx.out];dsimp only;rw [if_neg (by rw [hpol.out];simp),if_pos (by rw [hk.out];simp)]
    rw [hVe];exact ⟨rfl,T,hTz.out.away gx (fun y hy ht => by have:=hlt.out y ht;simp at hy;omega),rfl,gx.all gWz (fun y hy => by simp at hy;have:=hg0z;omega)⟩
   | none =>
    rw [hk] at hgs;have hgt:Ok E (none) = (.nilIface):=rfl;rw [hgt] at hgs;replace hgs:=zH hgs;replace hk:=zH hk;go_upto_region 8 with fail
    go_region_held3 (fun w' => w'.cell? ⟨tb,0,none⟩ = some (.slice T.an T.N.length T.cn)∧w'.cell? ⟨tb,1,none⟩ = some (.slice T.ag T.G.length T.cg)∧w'.cell? ⟨tb,2,none⟩ = some (.int .i64 T.last)∧w'.cell? ⟨tb,3,none⟩ = some (.int .i64 T.now)∧w'.cell? ⟨w.heap.size,0,none⟩ = some (.int .i64 o.kd)∧w'.cell? ⟨w.heap.size,1,none⟩ = some (.int .i64 o.id)∧w'.cell? ⟨w.heap.size,2,none⟩ = some (.int .i64 o.srv.k)∧w'.cell? ⟨w.heap.size,3,none⟩ = some (.int .i64 o.srv.q)∧w'.cell? ⟨w.heap.size,4,none⟩ = some (.int .i64 o.srv.t)∧w'.cell? ⟨w.heap.size,5,none⟩ = some (.int .i64 o.pol)∧w'.cell? ⟨w.heap.size,6,none⟩ = some (.slice oa o.tasks.length oc)∧w'.cell? ⟨w.heap.size,7,none⟩ = some (.int .i64 o.at_)∧w'.cell? ⟨nb,i * 7,none⟩ = some (.int .i64 x.e.id)∧w'.cell? ⟨nb,i * 7 + 1,none⟩ = some (.int .i64 x.e.par)∧w'.cell? ⟨nb,i * 7 + 2,none⟩ = some (.int .i64 x.e.srv.k)∧w'.cell? ⟨nb,i * 7 + 3,none⟩ = some (.int .i64 x.e.srv.q)∧w'.cell? ⟨nb,i * 7 + 4,none⟩ = some (.int .i64 x.e.srv.t)∧w'.cell? ⟨nb,i * 7 + 5,none⟩ = some (.int .i64 x.e.pol)∧w'.cell? ⟨nb,i * 7 + 6,none⟩ = some (.slice x.a x.e.tasks.length x.c)) (simp (maxDischargeDepth:=8) [go_sem, *])
     (first
      | (go_at_call 170;(with_reducible refine hgs.out.mono ?_);rintro e w3 ⟨rfl,gc⟩;have gq:Gr w2 w3:=gd2.trans gc;have gq23:=Lib.hid gq;have hT3:=hT2.out.gr gq;have zt3:=hT3.o.lt;have hO3:=hO2.out.gr gq;have zo3:=hO3.lt;have hR3:=hR2.out.gr gq;have gW3:=gW2.trans gq;refine AZ ?_ hT3 hO3 hR3;clear hT3 hO3 hR3;intro hT3 hO3 hR3;obtain ⟨m0,m1,m2,m3⟩:=hT3.out.o.c4;obtain ⟨n0,n1,n2,n3,n4,n5,n6,n7⟩:=hO3.out.c8;obtain ⟨knz,kn0,kn1,kn2,kn3,kn4,kn5,kn6⟩:=B6 hT3.out.t hnb.out hx.out)
      | fail)
    clear c0 c1 c2 c3 o0 o1 o2 o3 o4 o5 o6 o7;clear m0 m1 m2 m3 n0 n1 n2 n3 n4 n5 n6 n7;clear kz k0 k1 k2 k3 k4 k5 k6;clear knz kn0 kn1 kn2 kn3 kn4 kn5 kn6;clear tp;obtain ⟨c0,c1,c2,c3⟩:=hT3.out.o.c4;obtain ⟨o0,o1,o2,o3,o4,o5,o6,o7⟩:=hO3.out.c8;obtain ⟨kz,k0,k1,k2,k3,k4,k5,k6⟩:=B6 hT3.out.t hnb.out hx.out;have kf:=fun q => BE hT3.out.t.n hnb.out q
    dsimp only at kf;have hob:(Value.slice T.an T.N.length T.cn).ownBlock = some nb:=by rw [hnb.out];rfl
    have hn1:nb ≠ w.heap.size:=fun e => Aj hT3.out.t.n hO3.out (by decide) (by rw [hob,e])
    have hn2:nb ≠ w.heap.size + 1:=fun e => Aj hT3.out.t.n hR3.out (by decide) (by rw [hob,e])
    have hn3:nb ≠ tb:=fun e => Aj hT3.out.t.n hT3.out.o (by decide) (by rw [hob,e])
    have hBn:B≤nb:=(Ar hT3.out.t.n nb hob).2;have hts:∀ ad,oa = some ad→o.tasks ≠ []→ad.block ∉ [nb]:=fun ad ha ht hm => by have:=hto.out ad ha ht;rw [List.mem_singleton.1 hm] at this;omega
    have gW3b:Gr W w3:=(g1.trans g2).trans gq23.out;have gd3:Gr w3 w3.drew:=(Gr.refl w3).drew;have ht3:AC (fun b => b ∉ [nb]) 4 AA.cells w3 oa o.tasks:=⟨(AC.grx (K:=Any) ⟨htW.out,fun _ _ _ => trivial⟩ (gW3b.x []) (fun _ h => by cases h)).1,hts⟩
    have htA:=(AC.grx (K:=Any) ⟨ht3.1,fun _ _ _ => trivial⟩ (gd3.x []) (fun _ h => by cases h)).1;have hcl:=fun (w':World) (hh:Al 4 AA.cells w' oa o.tasks) => Fh oa oc o.tasks w' hh hoc.out hom
    refine DT ?_ hob ht3 htA hcl hts;clear hob ht3 htA hcl hts;intro hob ht3 htA hcl hts;go_upto_region 10 with fail
    go_region_held3 (fun w' => w'.cell? ⟨w.heap.size,0,none⟩ = some (.int .i64 o.kd)∧w'.cell? ⟨w.heap.size,1,none⟩ = some (.int .i64 o.id)∧w'.cell? ⟨w.heap.size,2,none⟩ = some (.int .i64 o.srv.k)∧w'.cell? ⟨w.heap.size,3,none⟩ = some (.int .i64 o.srv.q)∧w'.cell? ⟨w.heap.size,4,none⟩ = some (.int .i64 o.srv.t)∧w'.cell? ⟨w.heap.size,5,none⟩ = some (.int .i64 o.pol)∧w'.cell? ⟨w.heap.size,6,none⟩ = some (.slice oa o.tasks.length oc)∧w'.cell? ⟨w.heap.size,7,none⟩ = some (.int .i64 o.at_)) (simp (maxDischargeDepth:=8) [go_sem, *])
     (first
      | (go_at_call 71;(with_reducible refine (hcl.out w3.drew htA.out).mono ?_);rintro e w5 ⟨a5,c5,rfl,r5,n5,m5,l5,g5,f5,x5⟩;have gq:=gd3.trans g5;have hT5:=hT3.out.gr gq;have hO5:=hO3.out.gr gq;have kf5:=fun q => BE hT5.t.n hnb.out q;dsimp only at kf5;obtain ⟨p0,p1,p2,p3,p4,p5,p6,p7⟩:=hO5.c8;obtain ⟨qz,q0,q1,q2,q3,q4,q5,q6⟩:=B6 hT5.t hnb.out hx.out;refine DT ?_ hT5 hO5 r5 x5 f5;clear hT5 hO5 r5 x5 f5;intro hT5 hO5 r5 x5 f5)
      | fail)
    clear c0 c1 c2 c3 o0 o1 o2 o3 o4 o5 o6 o7;clear kz k0 k1 k2 k3 k4 k5 k6;clear p0 p1 p2 p3 p4 p5 p6 p7;clear qz q0 q1 q2 q3 q4 q5 q6;clear kf kf5;obtain ⟨wx,hwx⟩:=zE ((w5.setCell ⟨nb,i * 7 + 5,none⟩ (.int .i64 o.pol)).setCell ⟨nb,i * 7 + 6,none⟩ (.slice a5 o.tasks.length c5));rw [← hwx];obtain ⟨y,hy⟩:∃ y:Ax,y = ⟨{x.e with pol:=o.pol,tasks:=o.tasks},a5,c5⟩:=⟨_,rfl⟩
    have hz3:=(B6 hT3.out.t hnb.out hx.out).1;have htb3:=hT3.out.o.lt;have hzd:w3.drew.heap.size = w3.heap.size:=rfl;have hz5:=gq.size;obtain ⟨ga,hA⟩:=LS hT5.out.t hnb.out hx.out o.pol rfl;have r6:=(r5.out.grx ga (fun z hz hk => by rw [List.mem_singleton.1 hz] at hk;have hk2:w3.heap.size≤nb:=hk;omega)).mono (K':=fun b => B≤b) (fun b _ hk => by have hk2:w3.heap.size≤b:=hk;omega);have hq5:∀ ad,a5 = some ad→o.tasks ≠ []→w3.heap.size≤ad.block:=fun ad ha ht => r5.out.2 ad ha ht
    obtain ⟨gb,hC⟩:=LR (x:=⟨{x.e with pol:=o.pol},x.a,x.c⟩) hA hnb.out (List.getElem?_set_self (AQ hx.out)) o.tasks a5 c5 ⟨r6,n5,m5,l5,hom⟩ (fun ad ha ht => ⟨fun e => by have:=hq5 ad ha ht;omega,fun e => by have:=hq5 ad ha ht;have:=(Ar hT3.out.t.g _ e).1;omega,fun q => by rw [ga.frozen (r5.out.1.lt ha ht) (fun hm => by have:=hq5 ad ha ht;rw [List.mem_singleton.1 hm] at this;omega)];exact f5.out ad ha ht q⟩) hwx;dsimp only at hC;rw [List.set_set,← hy] at hC;have hnl:(T.N.set i y).length = T.N.length:=List.length_set ..;have hbb:∀ z ∈ T.N.set i y,∀ ad,z.a = some ad→z.e.tasks ≠ []→ad.block ≠ tb∧ad.block ≠ w.heap.size + 1:=fun z hz ad ha ht => by
     have hz1:=hR3.out.lt;rcases List.mem_or_eq_of_mem_set hz with hz | hz
     ·have:=hlt.out _ (.inr (.inr (.inr ⟨z,hz,ad,ha,ht,rfl⟩)));exact ⟨hT3.out.b z hz ad ha ht,by omega⟩
     ·rw [hz,hy] at ha ht;have:=hq5 ad ha ht;exact ⟨by omega,by omega⟩
    have hOB:Bn B wx tb ⟨T.N.set i y,T.an,T.cn,T.G,T.ag,T.cg,T.last,T.now⟩:=by
     refine ⟨?_,hC,hT3.out.hB,fun z hz ad ha ht => (hbb z hz ad ha ht).1⟩;have h1:=(hT5.out.o.grx ga (fun hm => hn3 (List.mem_singleton.1 hm).symm)).grx gb (fun hm => hn3 (List.mem_singleton.1 hm).symm);dsimp only [TM.row] at h1 ⊢;rw [hnl];exact h1
    have hRx:=((hR3.out.gr gq).grx ga (fun hm => hn2 (List.mem_singleton.1 hm).symm)).grx gb (fun hm => hn2 (List.mem_singleton.1 hm).symm);have hOx:=(hO5.out.grx ga (fun hm => hn1 (List.mem_singleton.1 hm).symm)).grx gb (fun hm => hn1 (List.mem_singleton.1 hm).symm);have gWx:Gr W0 wx:=gb.all (ga.all (gW3.trans gq) (fun z hz => by rw [List.mem_singleton.1 hz];omega)) (fun z hz => by rw [List.mem_singleton.1 hz];omega);have v1:=hOx.cell (i:=1) (v:=.int .i64 o.id) rfl;obtain ⟨r0,r1⟩:=hRx.c2;have rf:=fun i => hRx.free i
    refine Br ?_ hwx hy hA hC r6 hq5 hnl hbb;clear hwx hy hA hC r6 hq5 hnl hbb;intro hwx hy hA hC r6 hq5 hnl hbb;refine AZ ?_ hOB hRx hOx;clear hOB hRx hOx;intro hOB hRx hOx;go_wp2_with fail;have hR9:Ag ((wx.setCell ⟨w.heap.size + 1,0,none⟩ (.int .i64 0)).setCell ⟨w.heap.size + 1,1,none⟩ (.int .i64 o.id)) (w.heap.size + 1) #[.int .i64 0,.int .i64 o.id] 34:=(hRx.out.set 0 (.int .i64 0)).set 1 (.int .i64 o.id);have gx9:Aw [w.heap.size + 1] wx ((wx.setCell ⟨w.heap.size + 1,0,none⟩ (.int .i64 0)).setCell ⟨w.heap.size + 1,1,none⟩ (.int .i64 o.id)):=((Aw.refl _ _).set (.inl (by simp)) _).set (.inl (by simp)) _;obtain ⟨q0,q1⟩:=hR9.c2;refine bodyPost_ret (v:=.agg #[.int .i64 0,.int .i64 o.id]) (by simp [results,Tryz.results96,go_sem,q0,q1]) rfl ?_;have hVe:V = (⟨(T.N.set i y).map (·.e),T.G,T.last,T.now⟩,0,o.id):=by
     rw [hV.out];unfold Ab.bind;rw [if_neg (by rw [hgo.out];decide),if_neg (by rw [← hZ.out,hz.out];simp),hfx.out];dsimp only;rw [if_neg (by rw [hpol.out];simp),if_neg (by rw [hk.out];simp)];rw [I4 (f:=fun n => {n with pol:=o.pol,tasks:=o.tasks}) hs.out hx.out hid.out (by rw [hy.out])]
    have hTB:∀ z,z ∈ [w.heap.size + 1]→¬ Dq tb ⟨T.N.set i y,T.an,T.cn,T.G,T.ag,T.cg,T.last,T.now⟩ z:=fun z hz ht => by
     rw [List.mem_singleton.1 hz] at ht;rcases ht with ht | ht | ht | ⟨u,hu,ad,ha,htt,hab⟩
     ·have:=hlt.out tb (.inl rfl);omega
     ·exact Aj hOB.out.t.n hRx.out (by decide) ht
     ·exact Aj hOB.out.t.g hRx.out (by decide) ht
     ·exact (hbb.out u hu ad ha htt).2 hab
    rw [hVe];exact ⟨rfl,_,hOB.out.away gx9 hTB,rfl,gx9.all gWx (fun z hz => by rw [List.mem_singleton.1 hz];omega)⟩
  ·have tp:(x.e.pol != 0) = true:=by simpa using hpol
   replace hpol:=zH hpol;go_wp2_with fail;clear kz k0 k1 k2 k3 k4 k5 k6;refine (AG 3 _).mono ?_;rintro e wz ⟨rfl,gz⟩;have hRz:=hR2.out.gr gz;have hTz:=hT2.out.gr gz;have gWz:=gW2.trans gz;obtain ⟨r0,r1⟩:=hRz.c2;have rf:=fun i => hRz.free i
   replace hRz:=zH hRz;replace hTz:=zH hTz;go_wp2_with fail;have hR9:Ag ((wz.setCell ⟨w.heap.size + 1,0,none⟩ (.int .i64 3)).setCell ⟨w.heap.size + 1,1,none⟩ (.int .i64 0)) (w.heap.size + 1) #[.int .i64 3,.int .i64 0] 34:=(hRz.out.set 0 (.int .i64 3)).set 1 (.int .i64 0);have gx:Aw [w.heap.size + 1] wz ((wz.setCell ⟨w.heap.size + 1,0,none⟩ (.int .i64 3)).setCell ⟨w.heap.size + 1,1,none⟩ (.int .i64 0)):=((Aw.refl _ _).set (.inl (by simp)) _).set (.inl (by simp)) _;obtain ⟨q0,q1⟩:=hR9.c2;refine bodyPost_ret (v:=.agg #[.int .i64 3,.int .i64 0]) (by simp [results,Tryz.results96,go_sem,q0,q1]) rfl ?_;have hVe:V = (T.v,3,0):=by rw [hV.out];unfold Ab.bind;rw [if_neg (by rw [hgo.out];decide),if_neg (by rw [← hZ.out,hz.out];simp),hfx.out];dsimp only;rw [if_pos hpol.out]
   rw [hVe];exact ⟨rfl,T,hTz.out.away gx (fun y hy ht => by have:=hlt.out y ht;simp at hy;omega),rfl,gx.all gWz (fun y hy => by simp at hy;have:=hg0z;omega)⟩
theorem J6 {w:World} {B:Nat} {e:TypeId} {k g n c:Nat} {xs:List Value} (h:w.ownsRow B e k (.slice (some ⟨g,0,none⟩) n c) n xs) (p:Nat) (u:Value) (hu:xs[p]? = some u):w.cell? ⟨g,p,none⟩ = some u:=by
 rcases h.2 with ⟨h1,_⟩ | ⟨g',cap,cur,h1,h2,h3,h4,h5,h6,h7⟩
 ·cases h1
 ·cases h1
  rw [← h7,List.getElem?_take] at hu;split at hu
  ·simpa [World.cell?,h3] using hu
  ·cases hu
theorem MI {B:Nat} {e:TypeId} {k g n c:Nat}:∀ (vs:List Value) (q:Nat) (w:World) (xs:List Value),w.ownsRow B e k (.slice (some ⟨g,0,none⟩) n c) n xs→(w.setCells g q vs).ownsRow B e k (.slice (some ⟨g,0,none⟩) n c) n (wrL xs q vs)∧Aw [g] w (w.setCells g q vs):=by
 intro vs;induction vs with
 | nil => intro q w xs h;exact ⟨h,Aw.refl _ _⟩
 | cons v vs ih =>
  intro q w xs h;obtain ⟨h1,h2⟩:=ih (q + 1) _ _ (BP h q v);exact ⟨h1,((Aw.refl [g] w).set (.inl (by simp)) v).trans h2⟩
theorem Mb (N:List Ax) (i:Nat) (hi:i < N.length):∃ Z:List Ax,wrL (N.flatMap Ax.cells) (i * 7) ((N.drop (i + 1)).flatMap Ax.cells) = (N.eraseIdx i ++ Z).flatMap Ax.cells:=by
 refine ⟨(N.drop i).drop (N.length - 1 - i),?_⟩;have h1:N = N.take i ++ ((N.drop i).take (N.length - 1 - i) ++ (N.drop i).drop (N.length - 1 - i)):=by rw [List.take_append_drop,List.take_append_drop]
 have h2:N.flatMap Ax.cells = (N.take i).flatMap Ax.cells ++ ((N.drop i).take (N.length - 1 - i)).flatMap Ax.cells ++ ((N.drop i).drop (N.length - 1 - i)).flatMap Ax.cells:=by
  conv => lhs;rw [h1]
  rw [List.flatMap_append,List.flatMap_append,List.append_assoc]
 have h3:i * 7 = ((N.take i).flatMap Ax.cells).length:=by rw [BZ Ax.cells_len,List.length_take,Nat.min_eq_left (by omega)]
 rw [h2,h3,LH _ _ _ _ (by rw [BZ Ax.cells_len,BZ Ax.cells_len];simp;omega),List.eraseIdx_eq_take_drop_succ,List.flatMap_append,List.flatMap_append]
theorem Lt {B:Nat} (N:List Ax) (nb c:Nat) (w:World) (h:w.ownsRow B 39 7 (.slice (some ⟨nb,0,none⟩) N.length c) N.length (N.flatMap Ax.cells)) (hl:N.length≤1000000) (i:Nat) (hi:i < N.length) :
 Calls Tryz.prog 167 #[.slice (some ⟨nb,0,none⟩) N.length c,.int .i64 i,.int .i64 (i + 1)] w fun e w' => e = .returned (.slice (some ⟨nb,0,none⟩) (N.length - 1) c)∧Aw [nb] w w'∧w'.ownsRow B 39 7 (.slice (some ⟨nb,0,none⟩) (N.length - 1) c) (N.length - 1) ((N.eraseIdx i).flatMap Ax.cells):=by
 obtain ⟨j36,ji,jz0,jz1,jz2⟩:=info_parts Tryz.infoNd;have hcap:=CD h rfl;have t0:(i:Int)≤N.length:=by omega
 have t1:(i:Int) + 1≤N.length:=by omega
 have t2:(0:Int)≤(i:Int) + 1:=by omega
 have t3:((i:Int) + 1).toNat = i + 1:=by omega
 have t4:((i:Int) == (i:Int) + 1) = false:=by simp;omega
 have t5:(N.length:Int)≤c:=by have:=hcap.1;omega
 have t6:(i:Int)≤c:=by omega
 have t7:(i:Int) + 1≤c:=by omega
 obtain ⟨mv,hmv⟩:=zE ((N.drop (i + 1)).flatMap Ax.cells);have hml:mv.length = (N.length - (i + 1)) * 7:=by rw [hmv,BZ Ax.cells_len,List.length_drop]
 have hcell:∀ p u,(N.flatMap Ax.cells)[p]? = some u→w.cell? ⟨nb,p,none⟩ = some u:=fun p u hu => J6 h p u hu
 have hdrop:∀ j,mv[j]? = (N.flatMap Ax.cells)[(i + 1) * 7 + j]?:=by
  intro j;have h1:N.flatMap Ax.cells = (N.take (i + 1)).flatMap Ax.cells ++ mv:=by rw [hmv,← List.flatMap_append,List.take_append_drop]
  have h2:((N.take (i + 1)).flatMap Ax.cells).length = (i + 1) * 7:=by rw [BZ Ax.cells_len,List.length_take,Nat.min_eq_left (by omega)]
  rw [h1,List.getElem?_append_right (by omega),h2,Nat.add_sub_cancel_left]
 obtain ⟨A,hA,hnews⟩:∃ A:Addr,(if c = i + 1 then some (⟨nb,0,none⟩:Addr) else some ⟨nb,(i + 1) * 7,none⟩) = some A∧Hid (∀ j u,mv[j]? = some u→w.drew.cell? (A.add j) = some u):=by
  by_cases hc:c = i + 1
  ·refine ⟨⟨nb,0,none⟩,by simp [hc],Lib.hid fun j u hu => ?_⟩;have h0:mv.length = 0:=by rw [hml];have:=hcap.1;rw [show N.length - (i + 1) = 0 by omega]
   rw [List.length_eq_zero_iff.1 h0] at hu;simp at hu
  ·refine ⟨⟨nb,(i + 1) * 7,none⟩,by simp [hc],Lib.hid fun j u hu => ?_⟩;rw [hdrop j] at hu;rw [Addr.add_lit];exact hcell _ u hu
 have s1:Hid (mv.length = (N.length - (i + 1)) * 7):=Lib.hid hml;have s2:Hid (∀ u ∈ mv,u.oneCell' = true):=Lib.hid fun u hu => by
  rw [hmv] at hu;obtain ⟨x,_,hx⟩:=List.mem_flatMap.1 hu;exact Ax.cells_one x u hx
 have s3:Hid (∀ j,j < mv.length→(w.drew.cell? ⟨nb,0 + i * 7 + j,none⟩).isSome = true∧w.drew.frozen? ⟨nb,0 + i * 7 + j,none⟩ = false):=Lib.hid fun j hj => by
  rw [hml] at hj;have hlt:i * 7 + j < (N.flatMap Ax.cells).length:=by rw [BZ Ax.cells_len];omega
  rw [Nat.zero_add];exact ⟨by rw [show w.drew.cell? ⟨nb,i * 7 + j,none⟩ = _ from hcell _ _ (List.getElem?_eq_getElem hlt)];rfl,BE h rfl _⟩
 obtain ⟨Z,hZ⟩:=Mb N i hi;rw [← hmv] at hZ;have hOA:=MI mv (0 + i * 7) w.drew _ (As h (Gr.refl w).drew);rw [Nat.zero_add,hZ] at hOA;obtain ⟨m,hm⟩:=zE (N.length - 1);have hE:(N.eraseIdx i).length = m:=by rw [hm];exact List.length_eraseIdx_of_lt hi
 obtain ⟨w9,hrun,hO9,gx9⟩:=Hg (z:=.agg #[.int .i64 0,.int .i64 0,.int .i64 0,.int .i64 0,.int .i64 0,.int .i64 0,.slice none 0 0]) Tryz.underlying24 (fun w => by kernel_rfl) (by rfl) (by simp [Value.cells,Value.oneCell']) hOA.1 (i:=m) (by omega) (by decide);rw [List.flatMap_append,List.take_left' (by rw [BZ Ax.cells_len,hE])] at hO9;have t8:i + (N.length - (i + 1)) = m:=by omega
 have t9:N.length - m = 1:=by omega
 rw [t9] at hrun;have u1:(m:Int)≤N.length:=by omega
 have u2:(m:Int)≤c:=by have:=hcap.1;omega
 have u3:¬ c = m:=by have:=hcap.1;omega
 have u4:¬ c≤m:=by have:=hcap.1;omega
 rw [← hm];refine Br ?_ h hmv hml hZ hOA hO9 gx9 hE;clear h hmv hml hZ hOA hO9 gx9 hE;intro h hmv hml hZ hOA hO9 gx9 hE;replace hm:=zH hm;clear hcell hdrop;go_enter Tryz.func167,Tryz.ntmps167;go_upto_region 5 with fail
 go_region_law (refine step_append_room rfl (.tmp 22) (.tmp 25) 24 rfl 39 j36 7 Tryz.underlying24 ji jz1 nb 0 i c (by simp [Act.eval,Act.put]) A (N.length - (i + 1)) (c - (i + 1)) mv (by simp [Act.eval,Act.put]) s1.out hnews.out s2.out (by omega) s3.out ?_);go_wp2_with fail;go_ret;exact ⟨rfl,((Gr.refl w).drew.x [nb]).trans (hOA.out.2.trans gx9.out),hO9.out⟩
theorem Mm {N:List Ax} (hs:EF N) (i:Nat):EF (N.eraseIdx i):=by
 intro j k y z hj hk hjk;rw [List.getElem?_eraseIdx] at hj hk;by_cases h1:j < i
 ·rw [if_pos h1] at hj;by_cases h2:k < i
  ·rw [if_pos h2] at hk;exact hs _ _ _ _ hj hk hjk
  ·rw [if_neg h2] at hk;exact hs _ _ _ _ hj hk (by omega)
 ·rw [if_neg h1] at hj;rw [if_neg (by omega)] at hk;exact hs _ _ _ _ hj hk (by omega)
theorem Ol {N:List Ax} (hs:EF N) {i:Nat} {x:Ax} {id:Int} (hx:N[i]? = some x) (hid:x.e.id = id):(N.eraseIdx i).map (·.e) = (N.map (·.e)).filter fun n => decide (n.id ≠ id):=by
 have hi:=AQ hx;have h1:N = N.take i ++ x :: N.drop (i + 1):=by
  obtain ⟨h3,h4⟩:=List.getElem?_eq_some_iff.1 hx;rw [← h4,← List.drop_eq_getElem_cons h3,List.take_append_drop]
 have hA:((N.take i).map (·.e)).filter (fun n => decide (n.id ≠ id)) = (N.take i).map (·.e):=by
  rw [List.filter_eq_self];intro a ha;obtain ⟨z,hz,rfl⟩:=List.mem_map.1 ha;obtain ⟨j,hj⟩:=List.mem_iff_getElem?.1 hz;have hl:=AQ hj;rw [List.length_take] at hl;rw [List.getElem?_take_of_lt (by omega)] at hj;have:=hs _ _ _ _ hj hx (by omega);simp;omega
 have hB:((N.drop (i + 1)).map (·.e)).filter (fun n => decide (n.id ≠ id)) = (N.drop (i + 1)).map (·.e):=by
  rw [List.filter_eq_self];intro a ha;obtain ⟨z,hz,rfl⟩:=List.mem_map.1 ha;obtain ⟨j,hj⟩:=List.mem_iff_getElem?.1 hz;rw [List.getElem?_drop] at hj;have:=hs _ _ _ _ hx hj (by omega);simp;omega
 rw [List.eraseIdx_eq_take_drop_succ]
 conv => rhs;rw [h1]
 rw [List.map_append,List.map_append,List.filter_append,List.map_cons,List.filter_cons,if_neg (by simp [hid]),hA,hB]
theorem OT {B:Nat} {w w':World} {T:TM} {nb i:Nat} (h:A5 B w T) (hnb:T.an = some ⟨nb,0,none⟩) (hi:i < T.N.length) (g:Aw [nb] w w') (hN:w'.ownsRow B 39 7 (.slice (some ⟨nb,0,none⟩) (T.N.length - 1) T.cn) (T.N.length - 1) ((T.N.eraseIdx i).flatMap Ax.cells)):A5 B w' ⟨T.N.eraseIdx i,T.an,T.cn,T.G,T.ag,T.cg,T.last,T.now⟩:=by
 have hob:(Value.slice T.an T.N.length T.cn).ownBlock = some nb:=by rw [hnb];rfl
 have hd:∀ x ∈ T.N,∀ ad,x.a = some ad→x.e.tasks ≠ []→ad.block ∉ [nb]:=fun x hx ad ha ht hm => h.d x hx ad ha ht (by rw [hob,List.mem_singleton.1 hm])
 have hE:(T.N.eraseIdx i).length = T.N.length - 1:=List.length_eraseIdx_of_lt hi;have hsub:∀ x,x ∈ T.N.eraseIdx i→x ∈ T.N:=fun x hx => List.mem_of_mem_eraseIdx hx
 refine ⟨by dsimp only;rw [hE,hnb];exact hN,BW h.g g (fun k hk2 hm => Cg h.n h.g (by decide) (by rw [hob,List.mem_singleton.1 hm]) hk2),fun x hx => (h.k x (hsub x hx)).but g (hd x (hsub x hx)),fun x hx ad ha ht => ?_,fun x hx ad ha ht => h.dg x (hsub x hx) ad ha ht,fun x hx ad ha ht o => ?_,by dsimp only;rw [hE];have:=h.l1;omega,h.l2⟩
 ·show (Value.slice T.an (T.N.eraseIdx i).length T.cn).ownBlock ≠ _;have h1:=h.d x (hsub x hx) ad ha ht;rw [hob] at h1;rw [hnb];exact h1
 ·rw [g.frozen ((h.k x (hsub x hx)).1.1.lt ha ht) (hd x (hsub x hx) ad ha ht)];exact h.f x (hsub x hx) ad ha ht o
end Go.Proofs.YtdfelohjdkcpkaaGreatDoor
