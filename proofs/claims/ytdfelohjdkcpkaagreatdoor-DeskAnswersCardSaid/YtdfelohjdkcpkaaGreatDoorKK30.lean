/- almonerref09.Place, almonerref20.Answer. Printed by gen_z5.py. -/
import Derived.Test.YtdfelohjdkcpkaaGreatDoorKK29
set_option maxRecDepth 100000
set_option maxHeartbeats 12800000
namespace Go.Proofs.YtdfelohjdkcpkaaGreatDoor
open Go.RowKit
theorem KZ (a:Option Addr) (c:Nat) (L:List At) (cl nu:Int) (w:World) (h:Cc Any w a L) (hm:L.length≤maxLen) :
 Calls Tryz.prog 69 #[.slice a L.length c,.int .i64 cl,.int .i64 nu] w fun e w' => e = .returned (.int .i64 (Hf L cl nu + 1))∧Gr w w':=by
 obtain ⟨P,hP⟩:=zE (Hf L cl nu + 1);rw [← hP];unfold maxLen at hm;replace hP:=zH hP;go_enter Tryz.func69,Tryz.ntmps69;go_wp2_with fail;go_loopw [11] (fun iv wr => ∃ k:Nat,k≤L.length∧iv = .int .i64 k∧Hid (∀ y ∈ L.take k,Ca cl nu y.e = false)∧Gr w wr) (fun iv _ => L.length - (intOf iv).toNat);case atStart => exact ⟨0,Nat.zero_le _,rfl,Lib.hid (fun y hy => by simp at hy),Gr.refl _⟩
 case round =>
  obtain ⟨k,hk,rfl,hno,hg⟩:=hrel;by_cases hlt:k < L.length
  ·obtain ⟨x,hx⟩:=Ac L k hlt;obtain ⟨b,off,rfl,hb,_,c0,c1,c2,c3,c4,c5,c6,c7,c8,c9⟩:=(h.gr hg).get hx;have hg2:Gr w (wr.alloc x.obj):=hg.alloc _;cases hkey:Ca cl nu x.e with
   | true =>
    have hPk:P = (k:Int) + 1:=by rw [hP.out,LP hno.out hx hkey]
    have e2:x.e.cl = cl∧x.e.nu = nu:=by unfold Ca at hkey;simpa using hkey
    have e3:(x.e.cl == cl) = true:=by simpa using e2.1
    have e4:(x.e.nu == nu) = true:=by simpa using e2.2
    refine B0 ?_ hx hPk hg2 hkey;clear hx hPk hg2 hkey;intro hx hPk hg2 hkey;clear e2;go_wp2_with fail;go_ret;exact ⟨by rw [hPk.out];rfl,hg2.out⟩
   | false =>
    have hno2:∀ y ∈ L.take (k + 1),Ca cl nu y.e = false:=fun y hy => by
     rw [Ae hx] at hy;rcases List.mem_append.1 hy with hy | hy
     ·exact hno.out y hy
     ·rw [List.mem_singleton.1 hy];exact hkey
    by_cases q1:x.e.cl = cl
    ·have e3:(x.e.cl == cl) = true:=by simpa using q1
     have e4:(x.e.nu == nu) = false:=by
      cases h5:(x.e.nu == nu) with
      | false => rfl
      | true => unfold Ca at hkey;rw [e3,h5] at hkey;cases hkey
     refine B0 ?_ hx hg2 hkey hno2;clear hx hg2 hkey hno2;intro hx hg2 hkey hno2;clear q1;go_wp2_with fail;go_roundw;case rel => exact ⟨k + 1,by omega,by go_num,hno2,hg2.out⟩
     case measure => simp [intOf];omega
    ·have e3:(x.e.cl == cl) = false:=by simpa using q1
     refine B0 ?_ hx hg2 hkey hno2;clear hx hg2 hkey hno2;intro hx hg2 hkey hno2;clear q1;go_wp2_with fail;go_roundw;case rel => exact ⟨k + 1,by omega,by go_num,hno2,hg2.out⟩
     case measure => simp [intOf];omega
  ·have hkl:k = L.length:=by omega
   have hP0:P = 0:=by
    have:=hno.out;rw [hkl,List.take_length] at this;rw [hP.out,Iv this];rfl
   replace hP0:=zH hP0;replace hkl:=zH hkl;go_wp2_with fail;go_ret;exact ⟨by rw [hP0.out];rfl,hg⟩
theorem Az.gx {S:List Nat} {w w':World} {a:Option Addr} {l:List UInt8} (h:Az w a l) (g:Aw S w w') (hS:∀ x,a = some x→x.block ∉ S):Az w' a l:=(AC.grx (K:=fun b => b ∉ S) ⟨h,fun ad ha _ => hS ad ha⟩ g (fun _ hy hn => hn hy)).1
theorem Az.nil (w:World) (a:Option Addr):Az w a []:=fun i s hi => by simp at hi
def ED (L:List At) (k cl nu:Int):Option (Int × Int × List UInt8):=if k = 2 then some (0,0,AM (BF (Cp L))) else if k = 1 then (GH (L.map (·.e)) cl nu).map fun s => (s.1,s.2,[]) else none
def Ib (r:Option (Int × Int × List UInt8)) (q:At) (w:World) (e:Ending) (w':World):Prop:=Gr w w'∧match r with
 | some s => ∃ a c,e = .returned (.tuple #[.agg #[.int .i64 q.e.cl,.int .i64 q.e.nu,.int .i64 s.1,.int .i64 s.2.1,.slice a s.2.2.length c],.bool true])∧Az w' a s.2.2
 | none => e = .returned (.tuple #[.agg #[.int .i64 0,.int .i64 0,.int .i64 0,.int .i64 0,.slice none 0 0],.bool false])
theorem NA.r {L:List At} {q:At} {w w':World} {e:Ending} (h:NA (GH (L.map (·.e)) q.e.cl q.e.nu) q w e w'):Ib (ED L 1 q.e.cl q.e.nu) q w e w':=by
 obtain ⟨g,h⟩:=h;refine ⟨g,?_⟩;unfold ED;rw [if_neg (by decide),if_pos rfl];cases hr:GH (L.map (·.e)) q.e.cl q.e.nu with
 | none => rw [hr] at h;exact h
 | some s => rw [hr] at h;exact ⟨none,0,h,Az.nil _ _⟩
theorem MF (a:Option Addr) (c:Nat) (L:List At) (q:At) (w:World) (h:Cc Any w a L) (hi:∀ x ∈ L,EG x.e) (hm:L.length≤1000) :
 Calls Tryz.prog 22 #[.slice a L.length c,.agg #[.int .i64 2,.int .i64 q.e.cl,.int .i64 q.e.nu,.int .i64 q.e.kd,.int .i64 q.e.id,.int .i64 q.e.srv.k,.int .i64 q.e.srv.q,.int .i64 q.e.srv.t,.int .i64 q.e.po,.slice q.a q.e.tasks.length q.c,.int .i64 q.e.at_]] w (Ib (ED L 2 q.e.cl q.e.nu) q w):=by
 have htw:=GX L hm;obtain ⟨W,hW⟩:=zE ((w.alloc (.cells #[.int .i64 2,.int .i64 q.e.cl,.int .i64 q.e.nu,.int .i64 q.e.kd,.int .i64 q.e.id,.int .i64 q.e.srv.k,.int .i64 q.e.srv.q,.int .i64 q.e.srv.t,.int .i64 q.e.po,.slice q.a q.e.tasks.length q.c,.int .i64 q.e.at_] 47)).alloc (.cells #[.int .i64 0,.int .i64 0,.int .i64 0,.int .i64 0,.slice none 0 0] 56));have gW:Gr w W:=by rw [hW];exact ((Gr.refl w).alloc _).alloc _
 have hQ:Ag W (w.heap.size) #[.int .i64 2,.int .i64 q.e.cl,.int .i64 q.e.nu,.int .i64 q.e.kd,.int .i64 q.e.id,.int .i64 q.e.srv.k,.int .i64 q.e.srv.q,.int .i64 q.e.srv.t,.int .i64 q.e.po,.slice q.a q.e.tasks.length q.c,.int .i64 q.e.at_] 47:=by
  rw [hW];exact (Ag.n0).alloc _
 have hP:Ag W (w.heap.size + 1) #[.int .i64 0,.int .i64 0,.int .i64 0,.int .i64 0,.slice none 0 0] 56:=by
  rw [hW];exact Ag.n1
 have hWz:W.heap.size = w.heap.size + 2:=by rw [hW];simp
 have hLW:=h.gr gW;have hf:=EM a c L W hLW hi (by omega);refine Fm ?_ hQ hP hW hLW hf h hi;clear hQ hP hW hLW hf h hi;intro hQ hP hW hLW hf h hi;go_enter Tryz.func22,Tryz.ntmps22;go_upto_region 1 with fail
 rw [← hW.out];go_wp2_with fail;refine hf.out.mono ?_;rintro e w1 ⟨T,ra,rc,rfl,hTv,hO,hTA,g1⟩;obtain ⟨V,hV⟩:=zE ((w1.alloc (.cells T.row 27)).alloc (.cells #[.int .i64 q.e.cl,.int .i64 q.e.nu,.int .i64 0,.int .i64 0,.slice none 0 0] 56));have gV:Gr w1 V:=by rw [hV];exact ((Gr.refl w1).alloc _).alloc _
 have hT:Ag V (w1.heap.size) T.row 27:=by
  rw [hV];exact (Ag.n0).alloc _
 have hR:Ag V (w1.heap.size + 1) #[.int .i64 q.e.cl,.int .i64 q.e.nu,.int .i64 0,.int .i64 0,.slice none 0 0] 56:=by
  rw [hV];exact Ag.n1
 have hVz:V.heap.size = w1.heap.size + 2:=by rw [hV];simp
 have gA:=gW.trans (g1.trans gV);have hQ1:=hQ.out.gr g1;have hQV:=hQ.out.gr (g1.trans gV);have hPV:=hP.out.gr (g1.trans gV);have hTV:=(hTA.gr gV).any;have zq:=hQ1.lt;have zw1:W.heap.size≤w1.heap.size:=g1.size;obtain ⟨k0,k1,k2,k3,k4,k5,k6,k7,k8,k9,k10⟩:=hQ1.c11;refine Br ?_ hQ1 hQV hPV hTV hTA hTv hO hT;clear hQ1 hQV hPV hTV hTA hTv hO hT;intro hQ1 hQV hPV hTV hTA hTv hO hT;replace hR:=zH hR;replace hV:=zH hV;go_upto_region 3 with fail
 rw [← hV.out];clear k0 k1 k2 k3 k4 k5 k6 k7 k8 k9 k10;obtain ⟨k0,k1,k2,k3,k4,k5,k6,k7,k8,k9,k10⟩:=hQV.out.c11;have htn:BF T.v = BF (Cp L):=by rw [hTv.out]
 have hput:=Mr T V hTV.out (by rw [htn];omega) (by rw [htn];exact htw.1);rw [htn] at hput;obtain ⟨Bs,hBs⟩:=zE (AM (BF (Cp L)));rw [← hBs] at hput;obtain ⟨t0,t1,t2,t3⟩:=hT.out.c4;refine AZ ?_ htn hput hBs;clear htn hput hBs;intro htn hput hBs;go_wp2_with fail;refine hput.out.mono ?_;rintro e w4 ⟨a4,c4,rfl,hO4⟩;have g4:=hO4.2.2.2.2;have hR4:=hR.out.gr g4;have hP4:=hPV.out.gr g4;have zr:=hR4.lt;have zV:V.heap.size≤w4.heap.size:=g4.size;clear t0 t1 t2 t3 k0 k1 k2 k3 k4 k5 k6 k7 k8 k9 k10;have rfr:=fun i => hR4.free i
 obtain ⟨r0,r1,r2,r3,r4⟩:=hR4.c5;refine AZ ?_ hR4 hP4 hO4;clear hR4 hP4 hO4;intro hR4 hP4 hO4;go_upto_region 5 with fail
 obtain ⟨w5,hw5⟩:=zE (w4.setCell ⟨w1.heap.size + 1,4,none⟩ (.slice a4 Bs.length c4));rw [← hw5];clear rfr r0 r1 r2 r3 r4;have hR5:Ag w5 (w1.heap.size + 1) #[.int .i64 q.e.cl,.int .i64 q.e.nu,.int .i64 0,.int .i64 0,.slice a4 Bs.length c4] 56:=by rw [hw5];exact hR4.out.set 4 _
 have hP5:Ag w5 (w.heap.size + 1) #[.int .i64 0,.int .i64 0,.int .i64 0,.int .i64 0,.slice none 0 0] 56:=by rw [hw5];exact hP4.out.other (by show w.heap.size + 1 ≠ w1.heap.size + 1;omega) _
 have gx5:Aw [w1.heap.size + 1] w4 w5:=by rw [hw5];exact (Aw.refl _ _).set (.inl (by simp)) _
 have gA5:Gr w w5:=gx5.all (gA.trans g4) (fun y hy => by rw [List.mem_singleton.1 hy];omega);have hB5:Az w5 a4 Bs:=Az.gx hO4.out.2.1 gx5 (fun x hx => by have h1:=hO4.out.2.2.2.1 x hx;have h2:=hVz;simp;omega);obtain ⟨r0,r1,r2,r3,r4⟩:=hR5.c5;refine DT ?_ hw5 hR5 hP5 gx5 hB5;clear hw5 hR5 hP5 gx5 hB5;intro hw5 hR5 hP5 gx5 hB5;obtain ⟨wf,hwf⟩:=zE ((((((w5.setCell ⟨w.heap.size + 1,0,none⟩ (.int .i64 q.e.cl)).setCell ⟨w.heap.size + 1,1,none⟩ (.int .i64 q.e.nu)).setCell ⟨w.heap.size + 1,2,none⟩ (.int .i64 0)).setCell ⟨w.heap.size + 1,3,none⟩ (.int .i64 0)).setCell ⟨w.heap.size + 1,4,none⟩ (.slice a4 Bs.length c4)));obtain ⟨hRf,gWf⟩:=CC hP5.out hwf gA5 (by omega);obtain ⟨z0,z1,z2,z3,z4⟩:=hRf.c5;have rf:=fun i => hP5.out.free i
 obtain ⟨o0,o1,o2,o3,o4⟩:=hP5.out.c5;go_wp2_with fail;rw [← hwf];refine bodyPost_ret (v:=.tuple #[.agg #[.int .i64 q.e.cl,.int .i64 q.e.nu,.int .i64 0,.int .i64 0,.slice a4 Bs.length c4],.bool true]) (by simp [results,Tryz.results22,go_sem,z0,z1,z2,z3,z4]) rfl ?_;have gxf:Aw [w.heap.size + 1] w5 wf:=by
  rw [hwf];exact (((((Aw.refl _ _).set (.inl (by simp)) _).set (.inl (by simp)) _).set (.inl (by simp)) _).set (.inl (by simp)) _).set (.inl (by simp)) _
 refine ⟨gWf,?_⟩;unfold ED;rw [if_pos rfl,← hBs.out];exact ⟨a4,c4,rfl,hB5.out.gx gxf (fun x hx => by have h1:=hO4.out.2.2.2.1 x hx;simp;omega)⟩
theorem MG (a:Option Addr) (c:Nat) (L:List At) (q:At) (k:Int) (n1:k ≠ 1) (n2:k ≠ 2) (w:World) (h:Cc Any w a L) (hi:∀ x ∈ L,EG x.e) (hm:L.length≤1000) :
 Calls Tryz.prog 22 #[.slice a L.length c,.agg #[.int .i64 k,.int .i64 q.e.cl,.int .i64 q.e.nu,.int .i64 q.e.kd,.int .i64 q.e.id,.int .i64 q.e.srv.k,.int .i64 q.e.srv.q,.int .i64 q.e.srv.t,.int .i64 q.e.po,.slice q.a q.e.tasks.length q.c,.int .i64 q.e.at_]] w (Ib (ED L k q.e.cl q.e.nu) q w):=by
 have hk2:(k == 2) = false:=beq_eq_false_iff_ne.2 n2;have hk1:(k == 1) = false:=beq_eq_false_iff_ne.2 n1;have hk1n:(k != 1) = true:=by simpa using n1
 obtain ⟨W,hW⟩:=zE ((w.alloc (.cells #[.int .i64 k,.int .i64 q.e.cl,.int .i64 q.e.nu,.int .i64 q.e.kd,.int .i64 q.e.id,.int .i64 q.e.srv.k,.int .i64 q.e.srv.q,.int .i64 q.e.srv.t,.int .i64 q.e.po,.slice q.a q.e.tasks.length q.c,.int .i64 q.e.at_] 47)).alloc (.cells #[.int .i64 0,.int .i64 0,.int .i64 0,.int .i64 0,.slice none 0 0] 56));have gW:Gr w W:=by rw [hW];exact ((Gr.refl w).alloc _).alloc _
 have hQ:Ag W (w.heap.size) #[.int .i64 k,.int .i64 q.e.cl,.int .i64 q.e.nu,.int .i64 q.e.kd,.int .i64 q.e.id,.int .i64 q.e.srv.k,.int .i64 q.e.srv.q,.int .i64 q.e.srv.t,.int .i64 q.e.po,.slice q.a q.e.tasks.length q.c,.int .i64 q.e.at_] 47:=by
  rw [hW];exact (Ag.n0).alloc _
 have hP:Ag W (w.heap.size + 1) #[.int .i64 0,.int .i64 0,.int .i64 0,.int .i64 0,.slice none 0 0] 56:=by
  rw [hW];exact Ag.n1
 have hWz:W.heap.size = w.heap.size + 2:=by rw [hW];simp
 have hLW:=h.gr gW;have hf:=EM a c L W hLW hi (by omega);refine Fm ?_ hQ hP hW hLW hf h hi;clear hQ hP hW hLW hf h hi;intro hQ hP hW hLW hf h hi;go_enter Tryz.func22,Tryz.ntmps22;go_upto_region 1 with fail
 rw [← hW.out];go_wp2_with fail;refine hf.out.mono ?_;rintro e w1 ⟨T,ra,rc,rfl,hTv,hO,hTA,g1⟩;obtain ⟨V,hV⟩:=zE ((w1.alloc (.cells T.row 27)).alloc (.cells #[.int .i64 q.e.cl,.int .i64 q.e.nu,.int .i64 0,.int .i64 0,.slice none 0 0] 56));have gV:Gr w1 V:=by rw [hV];exact ((Gr.refl w1).alloc _).alloc _
 have hT:Ag V (w1.heap.size) T.row 27:=by
  rw [hV];exact (Ag.n0).alloc _
 have hR:Ag V (w1.heap.size + 1) #[.int .i64 q.e.cl,.int .i64 q.e.nu,.int .i64 0,.int .i64 0,.slice none 0 0] 56:=by
  rw [hV];exact Ag.n1
 have hVz:V.heap.size = w1.heap.size + 2:=by rw [hV];simp
 have gA:=gW.trans (g1.trans gV);have hQ1:=hQ.out.gr g1;have hQV:=hQ.out.gr (g1.trans gV);have hPV:=hP.out.gr (g1.trans gV);have hTV:=(hTA.gr gV).any;have zq:=hQ1.lt;have zw1:W.heap.size≤w1.heap.size:=g1.size;obtain ⟨k0,k1,k2,k3,k4,k5,k6,k7,k8,k9,k10⟩:=hQ1.c11;refine Br ?_ hQ1 hQV hPV hTV hTA hTv hO hT;clear hQ1 hQV hPV hTV hTA hTv hO hT;intro hQ1 hQV hPV hTV hTA hTv hO hT;replace hR:=zH hR;replace hV:=zH hV;go_upto_region 3 with fail
 rw [← hV.out];clear k0 k1 k2 k3 k4 k5 k6 k7 k8 k9 k10;obtain ⟨k0,k1,k2,k3,k4,k5,k6,k7,k8,k9,k10⟩:=hQV.out.c11;replace n1:=zH n1;replace n2:=zH n2;obtain ⟨wf,hwf⟩:=zE ((((((V.setCell ⟨w.heap.size + 1,0,none⟩ (.int .i64 0)).setCell ⟨w.heap.size + 1,1,none⟩ (.int .i64 0)).setCell ⟨w.heap.size + 1,2,none⟩ (.int .i64 0)).setCell ⟨w.heap.size + 1,3,none⟩ (.int .i64 0)).setCell ⟨w.heap.size + 1,4,none⟩ (.slice none 0 0)));obtain ⟨hRf,gWf⟩:=CC hPV.out hwf gA (by omega);obtain ⟨z0,z1,z2,z3,z4⟩:=hRf.c5;have rf:=fun i => hPV.out.free i
 obtain ⟨o0,o1,o2,o3,o4⟩:=hPV.out.c5;go_wp2_with fail;rw [← hwf];refine bodyPost_ret (v:=.tuple #[.agg #[.int .i64 0,.int .i64 0,.int .i64 0,.int .i64 0,.slice none 0 0],.bool false]) (by simp [results,Tryz.results22,go_sem,z0,z1,z2,z3,z4]) rfl ?_;refine ⟨gWf,?_⟩;unfold ED;rw [if_neg n2.out,if_neg n1.out]
theorem NS (a:Option Addr) (c:Nat) (L:List At) (q:At) (w:World) (h:Cc Any w a L) (hi:∀ x ∈ L,EG x.e) (hm:L.length≤1000) :
 Calls Tryz.prog 22 #[.slice a L.length c,.agg #[.int .i64 1,.int .i64 q.e.cl,.int .i64 q.e.nu,.int .i64 q.e.kd,.int .i64 q.e.id,.int .i64 q.e.srv.k,.int .i64 q.e.srv.q,.int .i64 q.e.srv.t,.int .i64 q.e.po,.slice q.a q.e.tasks.length q.c,.int .i64 q.e.at_]] w (Ib (ED L 1 q.e.cl q.e.nu) q w):=by
 have hpx:=J3 L q.e.cl q.e.nu;obtain ⟨W,hW⟩:=zE ((w.alloc (.cells #[.int .i64 1,.int .i64 q.e.cl,.int .i64 q.e.nu,.int .i64 q.e.kd,.int .i64 q.e.id,.int .i64 q.e.srv.k,.int .i64 q.e.srv.q,.int .i64 q.e.srv.t,.int .i64 q.e.po,.slice q.a q.e.tasks.length q.c,.int .i64 q.e.at_] 47)).alloc (.cells #[.int .i64 0,.int .i64 0,.int .i64 0,.int .i64 0,.slice none 0 0] 56));have gW:Gr w W:=by rw [hW];exact ((Gr.refl w).alloc _).alloc _
 have hQ:Ag W (w.heap.size) #[.int .i64 1,.int .i64 q.e.cl,.int .i64 q.e.nu,.int .i64 q.e.kd,.int .i64 q.e.id,.int .i64 q.e.srv.k,.int .i64 q.e.srv.q,.int .i64 q.e.srv.t,.int .i64 q.e.po,.slice q.a q.e.tasks.length q.c,.int .i64 q.e.at_] 47:=by
  rw [hW];exact (Ag.n0).alloc _
 have hP:Ag W (w.heap.size + 1) #[.int .i64 0,.int .i64 0,.int .i64 0,.int .i64 0,.slice none 0 0] 56:=by
  rw [hW];exact Ag.n1
 have hWz:W.heap.size = w.heap.size + 2:=by rw [hW];simp
 have hLW:=h.gr gW;have hf:=EM a c L W hLW hi (by omega);refine Fm ?_ hQ hP hW hLW hf h hi;clear hQ hP hW hLW hf h hi;intro hQ hP hW hLW hf h hi;go_enter Tryz.func22,Tryz.ntmps22;go_upto_region 1 with fail
 rw [← hW.out];go_wp2_with fail;refine hf.out.mono ?_;rintro e w1 ⟨T,ra,rc,rfl,hTv,hO,hTA,g1⟩;obtain ⟨V,hV⟩:=zE ((w1.alloc (.cells T.row 27)).alloc (.cells #[.int .i64 q.e.cl,.int .i64 q.e.nu,.int .i64 0,.int .i64 0,.slice none 0 0] 56));have gV:Gr w1 V:=by rw [hV];exact ((Gr.refl w1).alloc _).alloc _
 have hT:Ag V (w1.heap.size) T.row 27:=by
  rw [hV];exact (Ag.n0).alloc _
 have hR:Ag V (w1.heap.size + 1) #[.int .i64 q.e.cl,.int .i64 q.e.nu,.int .i64 0,.int .i64 0,.slice none 0 0] 56:=by
  rw [hV];exact Ag.n1
 have hVz:V.heap.size = w1.heap.size + 2:=by rw [hV];simp
 have gA:=gW.trans (g1.trans gV);have hQ1:=hQ.out.gr g1;have hQV:=hQ.out.gr (g1.trans gV);have hPV:=hP.out.gr (g1.trans gV);have hTV:=(hTA.gr gV).any;have zq:=hQ1.lt;have zw1:W.heap.size≤w1.heap.size:=g1.size;obtain ⟨k0,k1,k2,k3,k4,k5,k6,k7,k8,k9,k10⟩:=hQ1.c11;refine Br ?_ hQ1 hQV hPV hTV hTA hTv hO hT;clear hQ1 hQV hPV hTV hTA hTv hO hT;intro hQ1 hQV hPV hTV hTA hTv hO hT;replace hR:=zH hR;replace hV:=zH hV;go_upto_region 3 with fail
 rw [← hV.out];clear k0 k1 k2 k3 k4 k5 k6 k7 k8 k9 k10;obtain ⟨k0,k1,k2,k3,k4,k5,k6,k7,k8,k9,k10⟩:=hQV.out.c11;have hpl:=KZ a c L q.e.cl q.e.nu V (hLW.out.gr (g1.trans gV)) (by unfold maxLen;omega);replace hpl:=zH hpl;go_wp2_with fail;refine hpl.out.mono ?_;rintro e w4 ⟨rfl,g4⟩;have hQ4:=hQV.out.gr g4;have hR4:=hR.out.gr g4;have hP4:=hPV.out.gr g4;have gA4:=gA.trans g4;have zr:=hR4.lt;clear k0 k1 k2 k3 k4 k5 k6 k7 k8 k9 k10;cases hpc:He (L.map (·.e)) q.e.cl q.e.nu with
 | some k =>
  rw [hpc] at hpx;dsimp only at hpx;rw [hpx];obtain ⟨e0,he0,-,-,-⟩:=J4 hpc;have hkl:k < L.length:=by have:=AQ he0;rw [List.length_map] at this;exact this
  clear he0;have hrl:(Cb L).length = L.length:=Ev L;obtain ⟨r,hr⟩:=Ac (Cb L) k (by omega);have hRes:GH (L.map (·.e)) q.e.cl q.e.nu = some r:=by
   unfold GH;rw [hpc];unfold Cb at hr;dsimp only;rw [hr];rfl
  obtain ⟨ra2,rc2,e5,hrs,-,-⟩:=Af Cf hO.out;cases e5
  obtain ⟨b2,off2,hag2,hb2,hrc⟩:=hrs k r hr;subst hag2;have gV4:=gV.trans g4;have hbz:b2 < w4.heap.size:=Nat.lt_of_lt_of_le hb2 gV4.size;have r0:w4.cell? ⟨b2,off2 + k * 2,none⟩ = some (.int .i64 r.1):=by rw [gV4.cells.1 _ _ hb2];exact hrc 0 _ rfl
  have r1:w4.cell? ⟨b2,off2 + k * 2 + 1,none⟩ = some (.int .i64 r.2):=by rw [gV4.cells.1 _ _ hb2];exact hrc 1 _ rfl
  clear hrc hrs;have k0:(0:Int)≤(k:Int):=Int.natCast_nonneg k;have w1e:IntKind.i64.wrap ((k:Int) + 1 - 1) = k:=by rw [IntKind.wrap_i64];omega
  have w1f:IntKind.i64.wrap (k:Int) = k:=by rw [IntKind.wrap_i64];omega
  have t1:(0:Int) < (k:Int) + 1:=by omega
  have t1d:decide ((0:Int) < (k:Int) + 1) = true:=decide_eq_true t1;have t4:(k:Int) < (L.length:Int):=by omega
  have nb:b2 ≠ w1.heap.size + 1:=by omega
  have rfr:=fun i => hR4.free i
  rw [hrl];obtain ⟨p0,p1,p2,p3,p4⟩:=hR4.c5;refine Br ?_ hpx hpc hr hRes hrl hQ4 hR4 hP4;clear hpx hpc hr hRes hrl hQ4 hR4 hP4;intro hpx hpc hr hRes hrl hQ4 hR4 hP4;go_upto_region 10 with fail
  go_region_held3 (fun w' => w'.cell? ⟨b2,off2 + k * 2,none⟩ = some (.int .i64 r.1)∧w'.cell? ⟨b2,off2 + k * 2 + 1,none⟩ = some (.int .i64 r.2)) (simp (maxDischargeDepth:=8) [go_sem, *]) (first | fail);obtain ⟨w5,hw5⟩:=zE ((w4.setCell ⟨w1.heap.size + 1,2,none⟩ (.int .i64 r.1)).setCell ⟨w1.heap.size + 1,3,none⟩ (.int .i64 r.2));rw [← hw5];clear r0 r1 rfr p0 p1 p2 p3 p4;have hR5:Ag w5 (w1.heap.size + 1) #[.int .i64 q.e.cl,.int .i64 q.e.nu,.int .i64 r.1,.int .i64 r.2,.slice none 0 0] 56:=by rw [hw5];exact (hR4.out.set 2 _).set 3 _
  have hP5:Ag w5 (w.heap.size + 1) #[.int .i64 0,.int .i64 0,.int .i64 0,.int .i64 0,.slice none 0 0] 56:=by rw [hw5];exact (hP4.out.other (by show w.heap.size + 1 ≠ w1.heap.size + 1;omega) _).other (by show w.heap.size + 1 ≠ w1.heap.size + 1;omega) _
  have gx5:Aw [w1.heap.size + 1] w4 w5:=by rw [hw5];exact ((Aw.refl _ _).set (.inl (by simp)) _).set (.inl (by simp)) _
  have gA5:Gr w w5:=gx5.all gA4 (fun y hy => by rw [List.mem_singleton.1 hy];omega);obtain ⟨r0,r1,r2,r3,r4⟩:=hR5.c5;refine B0 ?_ hw5 hR5 hP5 gx5;clear hw5 hR5 hP5 gx5;intro hw5 hR5 hP5 gx5;obtain ⟨wf,hwf⟩:=zE ((((((w5.setCell ⟨w.heap.size + 1,0,none⟩ (.int .i64 q.e.cl)).setCell ⟨w.heap.size + 1,1,none⟩ (.int .i64 q.e.nu)).setCell ⟨w.heap.size + 1,2,none⟩ (.int .i64 r.1)).setCell ⟨w.heap.size + 1,3,none⟩ (.int .i64 r.2)).setCell ⟨w.heap.size + 1,4,none⟩ (.slice none 0 0)));obtain ⟨hRf,gWf⟩:=CC hP5.out hwf gA5 (by omega);obtain ⟨z0,z1,z2,z3,z4⟩:=hRf.c5;have rf:=fun i => hP5.out.free i
  obtain ⟨o0,o1,o2,o3,o4⟩:=hP5.out.c5;go_wp2_with fail;rw [← hwf];refine bodyPost_ret (v:=.tuple #[.agg #[.int .i64 q.e.cl,.int .i64 q.e.nu,.int .i64 r.1,.int .i64 r.2,.slice none 0 0],.bool true]) (by simp [results,Tryz.results22,go_sem,z0,z1,z2,z3,z4]) rfl ?_;refine NA.r ⟨gWf.drew,?_⟩;rw [hRes.out]
 | none =>
  rw [hpc] at hpx;dsimp only at hpx;rw [hpx];have t1d:decide ((0:Int) < (-1:Int) + 1) = false:=by decide
  refine B0 ?_ hpx hQ4 hR4 hP4;clear hpx hQ4 hR4 hP4;intro hpx hQ4 hR4 hP4;have hL4:=hLW.out.gr (g1.trans (gV.trans g4));replace hL4:=zH hL4;go_wp2_with fail;go_loopw [58] (fun iv wr => ∃ k:Nat,k≤L.length∧iv = .int .i64 k∧Hid (∀ y ∈ L.take k,¬ (y.e.cl = q.e.cl∧q.e.nu < y.e.nu))∧Gr w4 wr) (fun iv _ => L.length - (intOf iv).toNat);case atStart => exact ⟨0,Nat.zero_le _,rfl,Lib.hid (fun y hy => by simp at hy),Gr.refl _⟩
  case round =>
   obtain ⟨k,hk,rfl,hno,hg⟩:=hrel;by_cases hlt:k < L.length
   ·obtain ⟨x,hx⟩:=Ac L k hlt;obtain ⟨b,off,rfl,hb,_,c0,c1,c2,c3,c4,c5,c6,c7,c8,c9⟩:=(hL4.out.gr hg).get hx;have hg2:Gr w4 (wr.alloc x.obj):=hg.alloc _;have hQr:=hQ4.out.gr hg;have hRr:=hR4.out.gr hg2;have hPr:=hP4.out.gr hg2;have zqr:=hQr.lt;have gAr:=gA4.trans hg2;have k1:=hQr.cell (i:=1) (v:=.int .i64 q.e.cl) rfl;have k2:=hQr.cell (i:=2) (v:=.int .i64 q.e.nu) rfl;refine B0 ?_ hQr hRr hPr hg2;clear hQr hRr hPr hg2;intro hQr hRr hPr hg2;by_cases q1:x.e.cl = q.e.cl
    ·have e3:(x.e.cl == q.e.cl) = true:=by simpa using q1
     by_cases q2:q.e.nu < x.e.nu
     ·have e4:decide (q.e.nu < x.e.nu) = true:=decide_eq_true q2;have hRes:GH (L.map (·.e)) q.e.cl q.e.nu = some (102,0):=by
       unfold GH N0;rw [hpc];dsimp only;rw [if_pos];refine List.any_eq_true.2 ⟨x.e,List.mem_map.2 ⟨x,AL hx,rfl⟩,?_⟩;rw [decide_eq_true q1,decide_eq_true q2];rfl
      have rfr:=fun i => hRr.out.free i
      obtain ⟨p0,p1,p2,p3,p4⟩:=hRr.out.c5;refine AZ ?_ hx hRes hpc;clear hx hRes hpc;intro hx hRes hpc;clear q1;go_upto_region 17 with fail
      obtain ⟨w5,hw5⟩:=zE ((wr.alloc x.obj).setCell ⟨w1.heap.size + 1,2,none⟩ (.int .i64 102));rw [← hw5];clear rfr c0 c1 c2 c3 c4 c5 c6 c7 c8 c9 k1 k2 p0 p1 p2 p3 p4;have hR5:Ag w5 (w1.heap.size + 1) #[.int .i64 q.e.cl,.int .i64 q.e.nu,.int .i64 102,.int .i64 0,.slice none 0 0] 56:=by rw [hw5];exact hRr.out.set 2 _
      have hP5:Ag w5 (w.heap.size + 1) #[.int .i64 0,.int .i64 0,.int .i64 0,.int .i64 0,.slice none 0 0] 56:=by rw [hw5];exact hPr.out.other (by show w.heap.size + 1 ≠ w1.heap.size + 1;omega) _
      have gx5:Aw [w1.heap.size + 1] (wr.alloc x.obj) w5:=by rw [hw5];exact (Aw.refl _ _).set (.inl (by simp)) _
      have gA5:Gr w w5:=gx5.all gAr (fun y hy => by rw [List.mem_singleton.1 hy];omega);obtain ⟨r0,r1,r2,r3,r4⟩:=hR5.c5;refine B0 ?_ hw5 hR5 hP5 gx5;clear hw5 hR5 hP5 gx5;intro hw5 hR5 hP5 gx5;obtain ⟨wf,hwf⟩:=zE ((((((w5.setCell ⟨w.heap.size + 1,0,none⟩ (.int .i64 q.e.cl)).setCell ⟨w.heap.size + 1,1,none⟩ (.int .i64 q.e.nu)).setCell ⟨w.heap.size + 1,2,none⟩ (.int .i64 102)).setCell ⟨w.heap.size + 1,3,none⟩ (.int .i64 0)).setCell ⟨w.heap.size + 1,4,none⟩ (.slice none 0 0)));obtain ⟨hRf,gWf⟩:=CC hP5.out hwf gA5 (by omega);obtain ⟨z0,z1,z2,z3,z4⟩:=hRf.c5;have rf:=fun i => hP5.out.free i
      obtain ⟨o0,o1,o2,o3,o4⟩:=hP5.out.c5;go_wp2_with fail;rw [← hwf];refine bodyPost_ret (v:=.tuple #[.agg #[.int .i64 q.e.cl,.int .i64 q.e.nu,.int .i64 102,.int .i64 0,.slice none 0 0],.bool true]) (by simp [results,Tryz.results22,go_sem,z0,z1,z2,z3,z4]) rfl ?_;refine NA.r ⟨gWf,?_⟩;rw [hRes.out]
     ·have e4:decide (q.e.nu < x.e.nu) = false:=decide_eq_false q2;have hcd:¬ (x.e.cl = q.e.cl∧q.e.nu < x.e.nu):=fun h => q2 h.2
      have hno2:∀ y ∈ L.take (k + 1),¬ (y.e.cl = q.e.cl∧q.e.nu < y.e.nu):=fun y hy => by
       rw [Ae hx] at hy;rcases List.mem_append.1 hy with hy | hy
       ·exact hno.out y hy
       ·rw [List.mem_singleton.1 hy];exact hcd
      refine AZ ?_ hx hno2 hcd;clear hx hno2 hcd;intro hx hno2 hcd;clear q1;go_wp2_with fail;go_roundw;case rel => exact ⟨k + 1,by omega,by go_num,hno2,hg2.out⟩
      case measure => simp [intOf];omega
    ·have e3:(x.e.cl == q.e.cl) = false:=by simpa using q1
     have hcd:¬ (x.e.cl = q.e.cl∧q.e.nu < x.e.nu):=fun h => q1 h.1
     have hno2:∀ y ∈ L.take (k + 1),¬ (y.e.cl = q.e.cl∧q.e.nu < y.e.nu):=fun y hy => by
      rw [Ae hx] at hy;rcases List.mem_append.1 hy with hy | hy
      ·exact hno.out y hy
      ·rw [List.mem_singleton.1 hy];exact hcd
     refine AZ ?_ hx hno2 hcd;clear hx hno2 hcd;intro hx hno2 hcd;clear q1;go_wp2_with fail;go_roundw;case rel => exact ⟨k + 1,by omega,by go_num,hno2,hg2.out⟩
     case measure => simp [intOf];omega
   ·have hke:k = L.length:=by omega
    have hkb:decide ((k:Int) < L.length) = false:=decide_eq_false (by omega);have hRes:GH (L.map (·.e)) q.e.cl q.e.nu = none:=by
     unfold GH N0;rw [hpc];dsimp only;rw [if_neg];intro hc;obtain ⟨e,he,hq⟩:=List.any_eq_true.1 hc;obtain ⟨x,hx,rfl⟩:=List.mem_map.1 he;rw [Bool.and_eq_true,decide_eq_true_eq,decide_eq_true_eq] at hq;exact hno.out x (by rw [hke,List.take_length];exact hx) hq
    have hPr:=hP4.out.gr hg;have gAr:=gA4.trans hg;refine B0 ?_ hke hRes hPr hpc;clear hke hRes hPr hpc;intro hke hRes hPr hpc;obtain ⟨wf,hwf⟩:=zE ((((((wr.setCell ⟨w.heap.size + 1,0,none⟩ (.int .i64 0)).setCell ⟨w.heap.size + 1,1,none⟩ (.int .i64 0)).setCell ⟨w.heap.size + 1,2,none⟩ (.int .i64 0)).setCell ⟨w.heap.size + 1,3,none⟩ (.int .i64 0)).setCell ⟨w.heap.size + 1,4,none⟩ (.slice none 0 0)));obtain ⟨hRf,gWf⟩:=CC hPr.out hwf gAr (by omega);obtain ⟨z0,z1,z2,z3,z4⟩:=hRf.c5;have rf:=fun i => hPr.out.free i
    obtain ⟨o0,o1,o2,o3,o4⟩:=hPr.out.c5;go_wp2_with fail;rw [← hwf];refine bodyPost_ret (v:=.tuple #[.agg #[.int .i64 0,.int .i64 0,.int .i64 0,.int .i64 0,.slice none 0 0],.bool false]) (by simp [results,Tryz.results22,go_sem,z0,z1,z2,z3,z4]) rfl ?_;refine NA.r ⟨gWf,?_⟩;rw [hRes.out]
theorem J1 (a:Option Addr) (c:Nat) (L:List At) (q:At) (k:Int) (w:World) (h:Cc Any w a L) (hi:∀ x ∈ L,EG x.e) (hm:L.length≤1000) :
 Calls Tryz.prog 22 #[.slice a L.length c,.agg #[.int .i64 k,.int .i64 q.e.cl,.int .i64 q.e.nu,.int .i64 q.e.kd,.int .i64 q.e.id,.int .i64 q.e.srv.k,.int .i64 q.e.srv.q,.int .i64 q.e.srv.t,.int .i64 q.e.po,.slice q.a q.e.tasks.length q.c,.int .i64 q.e.at_]] w (Ib (ED L k q.e.cl q.e.nu) q w):=by
 by_cases n2:k = 2
 ·rw [n2];exact MF a c L q w h hi hm
 by_cases n1:k = 1
 ·rw [n1];exact NS a c L q w h hi hm
 ·exact MG a c L q k n1 n2 w h hi hm
theorem NE (T:TM) (w:World) (hT:Av Any w T) (hlen:(BF T.v).length≤48000) (hw:CY (BF T.v)) :
 Calls Tryz.prog 65 #[.agg T.row] w fun e w' => ∃ a c,e = .returned (.tuple #[.slice a (AM (BF T.v)).length c,.nilIface])∧Own w w' a c (AM (BF T.v)):=by
 obtain ⟨W,hW⟩:=zE (w.alloc (.cells T.row 27));have gW:Gr w W:=by rw [hW];exact (Gr.refl w).alloc _
 have hTb:Ag W (w.heap.size) T.row 27:=by
  rw [hW];exact Ag.n0
 have hWz:W.heap.size = w.heap.size + 1:=by rw [hW];simp
 refine AZ ?_ hTb hWz hW;clear hTb hWz hW;intro hTb hWz hW;go_enter Tryz.func65,Tryz.ntmps65;go_upto_region 1 with fail
 rw [← hW.out];go_wp2_with fail;refine (C7 _ (n:=w.heap.size + 1) hWz.out).mono ?_;rintro r w3 ⟨rfl,hW3⟩;have g3:=hW3.world;have hT3:=hTb.out.gr g3;obtain ⟨t0,t1,t2,t3⟩:=hT3.c4;have hn3:=Kb T w3 (hT.gr (gW.trans g3)) (by omega);refine AZ ?_ hT3 hW3 hn3;clear hT3 hW3 hn3;intro hT3 hW3 hn3;clear hT;go_wp2_with fail;refine hn3.out.mono ?_;rintro r w4 ⟨a1,c1,rfl,hr4,hb4,g4⟩;clear t0 t1 t2 t3;have hk0:L9 W w4 w4 (w.heap.size + 1) w3.heap.size []:=(hW3.out.gr g4).k;obtain ⟨N,hN⟩:=zE (BF T.v);rw [← hN] at hr4 hlen hw ⊢;refine DT ?_ hk0 hr4 hb4 hN hw;clear hk0 hr4 hb4 hN hw;intro hk0 hr4 hb4 hN hw;go_wp2_with fail;go_loopw [11] (fun kv wr => ∃ (k:Nat),k≤N.length∧kv = .int .i64 k∧L9 W w4 wr (w.heap.size + 1) w3.heap.size (AM (N.take k))) (fun kv _ => N.length - (intOf kv).toNat);case atStart => exact ⟨0,Nat.zero_le _,rfl,hk0.out⟩
 case round =>
  obtain ⟨k,hk,rfl,hK⟩:=hrel;have hkw:CY (N.take k):=fun m hm => hw.out m (List.mem_of_mem_take hm)
  have hkl:=FN hkw;have hkl2:(N.take k).length≤48000:=by rw [List.length_take];omega
  by_cases hlt:k < N.length
  ·have hlt2:(k:Int) < N.length:=by omega
   obtain ⟨v,hv⟩:=Ac N k hlt;obtain ⟨v0,v1⟩:=hw.out v (List.mem_of_getElem? hv);obtain ⟨m,rfl⟩:∃ m:Nat,v = m:=⟨v.toNat,by omega⟩
   obtain ⟨b,off,hab,hbl,hcl⟩:=hr4.out k (m:Int) hv;have hbb:=hb4.out b off hab;have hblk:wr.heap[b]? = w4.heap[b]?:=by obtain ⟨_,_,_,_,_,_,_,h6,_,_⟩:=hK;exact h6 b hbb hbl
   have hcell:wr.cell? ⟨b,off + k,none⟩ = some (.int .i64 (m:Int)):=by rw [World.cell?_of_block hblk];have:=hcl 0 _ rfl;simpa using this
   have hbz:b < wr.heap.size:=by obtain ⟨_,_,_,_,_,_,_,_,h7,_⟩:=hK;omega
   rw [hab];have hnum:=Kc _ _ wr _ _ (AM (N.take k)) m hK (by omega) (by omega);have hsn:AM (N.take (k + 1)) = AM (N.take k) ++ BX m:=by rw [Ae hv,CO];rfl
   refine DT ?_ hK hnum hsn hblk hkw;clear hK hnum hsn hblk hkw;intro hK hnum hsn hblk hkw;clear hv hcl;go_wp2_with fail;refine hnum.out.mono ?_;rintro r w6 ⟨rfl,hK6⟩;go_wp2_with fail;go_roundw;case rel => exact ⟨k + 1,by omega,by go_num,by rw [hsn.out];exact hK6⟩
   case measure => simp [intOf];omega
  ·have hke:k = N.length:=by omega
   have hkb:decide ((k:Int) < N.length) = false:=decide_eq_false (by omega);have hNt:N.take k = N:=List.take_of_length_le (by omega);rw [hNt] at hK;have hd:=HC _ wr _ _ (AM N) hK.at (by rw [hNt] at hkl hkl2;omega);have gwr:=hK.at.world;refine DT ?_ hke hNt hK hd hkw;clear hke hNt hK hd hkw;intro hke hNt hK hd hkw;go_wp2_with fail;refine hd.out.mono ?_;rintro r w7 ⟨a7,c7,rfl,hO7⟩;replace hO7:=zH hO7;go_wp2_with fail;go_ret2;exact ⟨a7,c7,by rw [← hN.out];rfl,by rw [← hN.out];exact hO7.out.older (gW.trans gwr)⟩
theorem II {G:List Nat} {E:Nat→Addr} (a:Option Addr) (c:Nat) (L:List At) (w:World) (hE:CK G E w) (i0:9 ∈ G) (i1:11 ∈ G) (i3:6 ∈ G) (i4:10 ∈ G) (h:Cc Any w a L) (hi:∀ x ∈ L,EG x.e) (hm:L.length≤100000) :
 Calls Tryz.prog 20 #[.slice a L.length c] w fun e w' => ∃ T:TM,e = .returned (.agg T.row)∧T.v = Cp L∧Av Any w' T∧Gr w w':=by
 obtain ⟨W,hW⟩:=zE (w.alloc (.cells #[.slice none 0 0,.slice none 0 0,.int .i64 0,.int .i64 0] 27));have gW:Gr w W:=by rw [hW];exact (Gr.refl w).alloc _
 have hR:Ag W (w.heap.size) #[.slice none 0 0,.slice none 0 0,.int .i64 0,.int .i64 0] 27:=by
  rw [hW];exact Ag.n0
 have hWz:W.heap.size = w.heap.size + 1:=by rw [hW];simp
 have hf:=Kq a c L W (hE.gr gW) i0 i1 i3 i4 (h.gr gW) hi hm;refine AZ ?_ hR hW hf;clear hR hW hf;intro hR hW hf;clear h hi hE;go_enter Tryz.func20,Tryz.ntmps20;go_upto_region 1 with fail
 rw [← hW.out];go_wp2_with fail;refine hf.out.mono ?_;rintro e w1 ⟨T,ra,rc,rfl,hTv,hO,hTA,g1⟩;clear hO;obtain ⟨V,hV⟩:=zE (w1.alloc (.cells T.row 27));have gV:Gr w1 V:=by rw [hV];exact (Gr.refl w1).alloc _
 have hT:Ag V (w1.heap.size) T.row 27:=by
  rw [hV];exact Ag.n0
 have hVz:V.heap.size = w1.heap.size + 1:=by rw [hV];simp
 have hRV:=hR.out.gr (g1.trans gV);have hTV:=hTA.gr gV;have gA:=gW.trans (g1.trans gV);have nz:w1.heap.size ≠ w.heap.size:=by have:=g1.size;omega
 obtain ⟨t0,t1,t2,t3⟩:=hT.c4;obtain ⟨r0,r1,r2,r3⟩:=hRV.c4;have rfr:=fun i => hRV.free i
 refine DT ?_ hV hT hTV hTA hTv;clear hV hT hTV hTA hTv;intro hV hT hTV hTA hTv;go_upto_region 2 with fail
 rw [← hV.out];obtain ⟨wf,hwf⟩:=zE ((((V.setCell ⟨w.heap.size,0,none⟩ (.slice T.an T.N.length T.cn)).setCell ⟨w.heap.size,1,none⟩ (.slice T.ag T.G.length T.cg)).setCell ⟨w.heap.size,2,none⟩ (.int .i64 T.last)).setCell ⟨w.heap.size,3,none⟩ (.int .i64 T.now));obtain ⟨hRf,hTf,gxf,gAf⟩:=Ep (B:=W.heap.size) (by omega) hRV rfl hTV.out hwf gA (Nat.le_refl _);obtain ⟨z0,z1,z2,z3⟩:=hRf.c4;refine B0 ?_ hRV hRf hTf gxf;clear hRV hRf hTf gxf;intro hRV hRf hTf gxf;go_wp2_with fail;rw [← hwf];refine bodyPost_ret (v:=.agg T.row) (by simp [results,Tryz.results20,go_sem,z0,z1,z2,z3]) rfl ?_;exact ⟨T,rfl,hTv.out,hTf.out.any,gAf⟩
theorem JX (k:Int) (q:At) (code:Int) (w:World) :
 Calls Tryz.prog 64 #[.agg #[.int .i64 k,.int .i64 q.e.cl,.int .i64 q.e.nu,.int .i64 q.e.kd,.int .i64 q.e.id,.int .i64 q.e.srv.k,.int .i64 q.e.srv.q,.int .i64 q.e.srv.t,.int .i64 q.e.po,.slice q.a q.e.tasks.length q.c,.int .i64 q.e.at_],.int .i64 code] w fun e w' => e = .returned (.agg #[.int .i64 q.e.cl,.int .i64 q.e.nu,.int .i64 code,.int .i64 0,.slice none 0 0])∧Gr w w':=by
 go_enter Tryz.func64,Tryz.ntmps64;go_wp2;refine bodyPost_ret (v:=.agg #[.int .i64 q.e.cl,.int .i64 q.e.nu,.int .i64 code,.int .i64 0,.slice none 0 0]) (by simp [results,Tryz.results64,go_sem]) rfl ⟨rfl,?_⟩;repeat (first | exact Gr.refl _ | apply Gr.alloc | apply Gr.drew | apply Gr.drewN | (refine Gr.setCell ?_ (by simp) _) | (refine Gr.trans ?_ (by assumption)))
theorem Nj {G:List Nat} {E:Nat→Addr} (a:Option Addr) (c:Nat) (L:List At) (q:At) (w:World) (hE:CK G E w) (i0:9 ∈ G) (i1:11 ∈ G) (i3:6 ∈ G) (i4:10 ∈ G) (h:Cc Any w a L) (hi:∀ x ∈ L,EG x.e) (hm:L.length≤1000) :
 Calls Tryz.prog 21 #[.slice a L.length c,.agg #[.int .i64 2,.int .i64 q.e.cl,.int .i64 q.e.nu,.int .i64 q.e.kd,.int .i64 q.e.id,.int .i64 q.e.srv.k,.int .i64 q.e.srv.q,.int .i64 q.e.srv.t,.int .i64 q.e.po,.slice q.a q.e.tasks.length q.c,.int .i64 q.e.at_]] w (Ib (ED L 2 q.e.cl q.e.nu) q w):=by
 have htw:=GX L hm;obtain ⟨W,hW⟩:=zE ((w.alloc (.cells #[.int .i64 2,.int .i64 q.e.cl,.int .i64 q.e.nu,.int .i64 q.e.kd,.int .i64 q.e.id,.int .i64 q.e.srv.k,.int .i64 q.e.srv.q,.int .i64 q.e.srv.t,.int .i64 q.e.po,.slice q.a q.e.tasks.length q.c,.int .i64 q.e.at_] 47)).alloc (.cells #[.int .i64 0,.int .i64 0,.int .i64 0,.int .i64 0,.slice none 0 0] 56));have gW:Gr w W:=by rw [hW];exact ((Gr.refl w).alloc _).alloc _
 have hQ:Ag W (w.heap.size) #[.int .i64 2,.int .i64 q.e.cl,.int .i64 q.e.nu,.int .i64 q.e.kd,.int .i64 q.e.id,.int .i64 q.e.srv.k,.int .i64 q.e.srv.q,.int .i64 q.e.srv.t,.int .i64 q.e.po,.slice q.a q.e.tasks.length q.c,.int .i64 q.e.at_] 47:=by
  rw [hW];exact (Ag.n0).alloc _
 have hP:Ag W (w.heap.size + 1) #[.int .i64 0,.int .i64 0,.int .i64 0,.int .i64 0,.slice none 0 0] 56:=by
  rw [hW];exact Ag.n1
 have hWz:W.heap.size = w.heap.size + 2:=by rw [hW];simp
 have hLW:=h.gr gW;have hEW:=hE.gr gW;obtain ⟨k0,k1,k2,k3,k4,k5,k6,k7,k8,k9,k10⟩:=hQ.c11;refine Dn ?_ hQ hP hW hLW h hi;clear hQ hP hW hLW h hi;intro hQ hP hW hLW h hi;go_enter Tryz.func21,Tryz.ntmps21;go_upto_region 1 with fail
 rw [← hW.out];go_wp2_with fail;refine (JX 2 q 0 _).mono ?_;rintro e w1 ⟨rfl,g1⟩;clear k0 k1 k2 k3 k4 k5 k6 k7 k8 k9 k10;obtain ⟨V,hV⟩:=zE (w1.alloc (.cells #[.int .i64 q.e.cl,.int .i64 q.e.nu,.int .i64 0,.int .i64 0,.slice none 0 0] 56));have gV:Gr w1 V:=by rw [hV];exact (Gr.refl w1).alloc _
 have hR:Ag V (w1.heap.size) #[.int .i64 q.e.cl,.int .i64 q.e.nu,.int .i64 0,.int .i64 0,.slice none 0 0] 56:=by
  rw [hV];exact Ag.n0
 have hVz:V.heap.size = w1.heap.size + 1:=by rw [hV];simp
 have gWV:=g1.trans gV;have hdf:=II a c L V (hEW.gr gWV) i0 i1 i3 i4 (hLW.out.gr gWV) hi.out (by omega);have zw1:W.heap.size≤w1.heap.size:=g1.size;refine AZ ?_ hV hR hdf;clear hV hR hdf;intro hV hR hdf;go_upto_region 3 with fail
 rw [← hV.out];go_wp2_with fail;refine hdf.out.mono ?_;rintro e w2 ⟨T,rfl,hTv,hTA,g2⟩;have htn:BF T.v = BF (Cp L):=by rw [hTv]
 have hput:=NE T w2 hTA (by rw [htn];omega) (by rw [htn];exact htw.1);rw [htn] at hput;obtain ⟨Bs,hBs⟩:=zE (AM (BF (Cp L)));rw [← hBs] at hput;refine DT ?_ htn hput hBs hTv hTA;clear htn hput hBs hTv hTA;intro htn hput hBs hTv hTA;go_wp2_with fail;refine hput.out.mono ?_;rintro e w4 ⟨a4,c4,rfl,hO4⟩;have g4:=hO4.2.2.2.2;have hR4:=hR.out.gr (g2.trans g4);have hP4:=hP.out.gr (gWV.trans (g2.trans g4));have gA:=gW.trans (gWV.trans (g2.trans g4));have zr:=hR4.lt;have zV:V.heap.size≤w2.heap.size:=g2.size;have rfr:=fun i => hR4.free i
 obtain ⟨r0,r1,r2,r3,r4⟩:=hR4.c5;refine AZ ?_ hR4 hP4 hO4;clear hR4 hP4 hO4;intro hR4 hP4 hO4;go_upto_region 7 with fail
 obtain ⟨w5,hw5⟩:=zE (w4.setCell ⟨w1.heap.size,4,none⟩ (.slice a4 Bs.length c4));rw [← hw5];clear rfr r0 r1 r2 r3 r4;have hR5:Ag w5 w1.heap.size #[.int .i64 q.e.cl,.int .i64 q.e.nu,.int .i64 0,.int .i64 0,.slice a4 Bs.length c4] 56:=by rw [hw5];exact hR4.out.set 4 _
 have hP5:Ag w5 (w.heap.size + 1) #[.int .i64 0,.int .i64 0,.int .i64 0,.int .i64 0,.slice none 0 0] 56:=by rw [hw5];exact hP4.out.other (by show w.heap.size + 1 ≠ w1.heap.size;omega) _
 have gx5:Aw [w1.heap.size] w4 w5:=by rw [hw5];exact (Aw.refl _ _).set (.inl (by simp)) _
 have gA5:Gr w w5:=gx5.all gA (fun y hy => by rw [List.mem_singleton.1 hy];omega);have hB5:Az w5 a4 Bs:=Az.gx hO4.out.2.1 gx5 (fun x hx => by have h1:=hO4.out.2.2.2.1 x hx;have h2:=hVz;simp;omega);obtain ⟨r0,r1,r2,r3,r4⟩:=hR5.c5;refine DT ?_ hw5 hR5 hP5 gx5 hB5;clear hw5 hR5 hP5 gx5 hB5;intro hw5 hR5 hP5 gx5 hB5;obtain ⟨wf,hwf⟩:=zE ((((((w5.setCell ⟨w.heap.size + 1,0,none⟩ (.int .i64 q.e.cl)).setCell ⟨w.heap.size + 1,1,none⟩ (.int .i64 q.e.nu)).setCell ⟨w.heap.size + 1,2,none⟩ (.int .i64 0)).setCell ⟨w.heap.size + 1,3,none⟩ (.int .i64 0)).setCell ⟨w.heap.size + 1,4,none⟩ (.slice a4 Bs.length c4)));obtain ⟨hRf,gWf⟩:=CC hP5.out hwf gA5 (by omega);obtain ⟨z0,z1,z2,z3,z4⟩:=hRf.c5;have rf:=fun i => hP5.out.free i
 obtain ⟨o0,o1,o2,o3,o4⟩:=hP5.out.c5;go_wp2_with fail;rw [← hwf];refine bodyPost_ret (v:=.tuple #[.agg #[.int .i64 q.e.cl,.int .i64 q.e.nu,.int .i64 0,.int .i64 0,.slice a4 Bs.length c4],.bool true]) (by simp [results,Tryz.results21,go_sem,z0,z1,z2,z3,z4]) rfl ?_;have gxf:Aw [w.heap.size + 1] w5 wf:=by
  rw [hwf];exact (((((Aw.refl _ _).set (.inl (by simp)) _).set (.inl (by simp)) _).set (.inl (by simp)) _).set (.inl (by simp)) _).set (.inl (by simp)) _
 refine ⟨gWf,?_⟩;unfold ED;rw [if_pos rfl,← hBs.out];exact ⟨a4,c4,rfl,hB5.out.gx gxf (fun x hx => by have h1:=hO4.out.2.2.2.1 x hx;simp;omega)⟩
theorem Nk (a:Option Addr) (c:Nat) (L:List At) (q:At) (k:Int) (n1:k ≠ 1) (n2:k ≠ 2) (w:World) :
 Calls Tryz.prog 21 #[.slice a L.length c,.agg #[.int .i64 k,.int .i64 q.e.cl,.int .i64 q.e.nu,.int .i64 q.e.kd,.int .i64 q.e.id,.int .i64 q.e.srv.k,.int .i64 q.e.srv.q,.int .i64 q.e.srv.t,.int .i64 q.e.po,.slice q.a q.e.tasks.length q.c,.int .i64 q.e.at_]] w (Ib (ED L k q.e.cl q.e.nu) q w):=by
 have hk2:(k == 2) = false:=beq_eq_false_iff_ne.2 n2;have hk1:(k == 1) = false:=beq_eq_false_iff_ne.2 n1;have hk1n:(k != 1) = true:=by simpa using n1
 obtain ⟨W,hW⟩:=zE ((w.alloc (.cells #[.int .i64 k,.int .i64 q.e.cl,.int .i64 q.e.nu,.int .i64 q.e.kd,.int .i64 q.e.id,.int .i64 q.e.srv.k,.int .i64 q.e.srv.q,.int .i64 q.e.srv.t,.int .i64 q.e.po,.slice q.a q.e.tasks.length q.c,.int .i64 q.e.at_] 47)).alloc (.cells #[.int .i64 0,.int .i64 0,.int .i64 0,.int .i64 0,.slice none 0 0] 56));have gW:Gr w W:=by rw [hW];exact ((Gr.refl w).alloc _).alloc _
 have hQ:Ag W (w.heap.size) #[.int .i64 k,.int .i64 q.e.cl,.int .i64 q.e.nu,.int .i64 q.e.kd,.int .i64 q.e.id,.int .i64 q.e.srv.k,.int .i64 q.e.srv.q,.int .i64 q.e.srv.t,.int .i64 q.e.po,.slice q.a q.e.tasks.length q.c,.int .i64 q.e.at_] 47:=by
  rw [hW];exact (Ag.n0).alloc _
 have hP:Ag W (w.heap.size + 1) #[.int .i64 0,.int .i64 0,.int .i64 0,.int .i64 0,.slice none 0 0] 56:=by
  rw [hW];exact Ag.n1
 have hWz:W.heap.size = w.heap.size + 2:=by rw [hW];simp
 obtain ⟨k0,k1,k2,k3,k4,k5,k6,k7,k8,k9,k10⟩:=hQ.c11;refine DT ?_ hQ hP hW n1 n2;clear hQ hP hW n1 n2;intro hQ hP hW n1 n2;go_enter Tryz.func21,Tryz.ntmps21;go_upto_region 1 with fail
 rw [← hW.out];obtain ⟨wf,hwf⟩:=zE ((((((W.setCell ⟨w.heap.size + 1,0,none⟩ (.int .i64 0)).setCell ⟨w.heap.size + 1,1,none⟩ (.int .i64 0)).setCell ⟨w.heap.size + 1,2,none⟩ (.int .i64 0)).setCell ⟨w.heap.size + 1,3,none⟩ (.int .i64 0)).setCell ⟨w.heap.size + 1,4,none⟩ (.slice none 0 0)));obtain ⟨hRf,gWf⟩:=CC hP.out hwf gW (by omega);obtain ⟨z0,z1,z2,z3,z4⟩:=hRf.c5;have rf:=fun i => hP.out.free i
 obtain ⟨o0,o1,o2,o3,o4⟩:=hP.out.c5;go_wp2_with fail;rw [← hwf];refine bodyPost_ret (v:=.tuple #[.agg #[.int .i64 0,.int .i64 0,.int .i64 0,.int .i64 0,.slice none 0 0],.bool false]) (by simp [results,Tryz.results21,go_sem,z0,z1,z2,z3,z4]) rfl ?_;refine ⟨gWf,?_⟩;unfold ED;rw [if_neg n2.out,if_neg n1.out]
theorem Kx {G:List Nat} {E:Nat→Addr} (a:Option Addr) (c:Nat) (L:List At) (q:At) (k:Int) (w:World) (hE:CK G E w) (i0:9 ∈ G) (i1:11 ∈ G) (i3:6 ∈ G) (i4:10 ∈ G) (i6:0 ∈ G) (h:Cc Any w a L) (hi:∀ x ∈ L,EG x.e) (hm:L.length≤1000) (hcap:L.length≤c) (hqb:EG q.e) :
 Calls Tryz.prog 21 #[.slice a L.length c,.agg #[.int .i64 k,.int .i64 q.e.cl,.int .i64 q.e.nu,.int .i64 q.e.kd,.int .i64 q.e.id,.int .i64 q.e.srv.k,.int .i64 q.e.srv.q,.int .i64 q.e.srv.t,.int .i64 q.e.po,.slice q.a q.e.tasks.length q.c,.int .i64 q.e.at_]] w (Ib (ED L k q.e.cl q.e.nu) q w):=by
 by_cases n2:k = 2
 ·rw [n2];exact Nj a c L q w hE i0 i1 i3 i4 h hi hm
 by_cases n1:k = 1
 ·rw [n1];exact (LD a c L q w hE i0 i1 i3 i4 i6 h hi (by omega) hcap hqb).mono fun e w' h => h.r
 ·exact Nk a c L q k n1 n2 w
theorem OP (a b:Int) (w:World):(binOp .neq 34 (.agg #[.int .i64 a,.int .i64 b]) (.agg #[.int .i64 a,.int .i64 b])).run Tryz.prog w = .ok (.bool false) w:=by simp [go_sem]
def K5 (V:Option (Int × Int × List UInt8)) (q:At):Rep:=match V with
 | some s => ⟨q.e.cl,q.e.nu,s.1,s.2.1,s.2.2⟩
 | none => ⟨0,0,0,0,[]⟩
theorem Ib.rep {V:Option (Int × Int × List UInt8)} {q:At} {w w':World} {e:Ending} (h:Ib V q w e w'):∃ a c,e = .returned (.tuple #[.agg #[.int .i64 (K5 V q).cl,.int .i64 (K5 V q).nu,.int .i64 (K5 V q).co,.int .i64 (K5 V q).id,.slice a (K5 V q).tree.length c],.bool V.isSome])∧Az w' a (K5 V q).tree∧Gr w w':=by
 obtain ⟨g,h⟩:=h;cases V with
 | none => exact ⟨none,0,h,Az.nil _ _,g⟩
 | some s =>
  obtain ⟨a,c,he,hb⟩:=h;exact ⟨a,c,he,hb,g⟩
theorem Ih {L M:List At} (h:M.map (·.e) = L.map (·.e)):Cp M = Cp L:=by unfold Cp;rw [h]
theorem NN {L M:List At} (h:M.map (·.e) = L.map (·.e)):Cb M = Cb L:=by unfold Cb;rw [h]
theorem OA {L M:List At} (h:M.map (·.e) = L.map (·.e)) (k c n:Int):ED M k c n = ED L k c n:=by unfold ED;rw [Ih h,h]
theorem GF {G:List Nat} {E:Nat→Addr} (W:World) (hE:CK G E W) (i0:9 ∈ G) (i1:11 ∈ G) (i3:6 ∈ G) (i4:10 ∈ G) (i6:0 ∈ G) (i7:15 ∈ G) (a:Option Addr) (c:Nat) (L:List At) (hL:Cc Any W a L) (hLi:∀ x ∈ L,EG x.e) (hLm:L.length * 96≤140737488351232) (k:Int) (q:At) (hq:EG q.e) :
 Calls Tryz.prog 4 #[.slice a L.length c,.agg #[.int .i64 k,.int .i64 q.e.cl,.int .i64 q.e.nu,.int .i64 q.e.kd,.int .i64 q.e.id,.int .i64 q.e.srv.k,.int .i64 q.e.srv.q,.int .i64 q.e.srv.t,.int .i64 q.e.po,.slice q.a q.e.tasks.length q.c,.int .i64 q.e.at_]] W fun e w' => e = .returned (.bool true)∧Gr W w':=by
 obtain ⟨W1,hW1⟩:=zE (W.alloc (.cells #[.int .i64 k,.int .i64 q.e.cl,.int .i64 q.e.nu,.int .i64 q.e.kd,.int .i64 q.e.id,.int .i64 q.e.srv.k,.int .i64 q.e.srv.q,.int .i64 q.e.srv.t,.int .i64 q.e.po,.slice q.a q.e.tasks.length q.c,.int .i64 q.e.at_] 47));have gW1:Gr W W1:=by rw [hW1];exact (Gr.refl W).alloc _
 have hQ:Ag W1 (W.heap.size) #[.int .i64 k,.int .i64 q.e.cl,.int .i64 q.e.nu,.int .i64 q.e.kd,.int .i64 q.e.id,.int .i64 q.e.srv.k,.int .i64 q.e.srv.q,.int .i64 q.e.srv.t,.int .i64 q.e.po,.slice q.a q.e.tasks.length q.c,.int .i64 q.e.at_] 47:=by
  rw [hW1];exact Ag.n0
 have hW1z:W1.heap.size = W.heap.size + 1:=by rw [hW1];simp
 have hal:=KI W1 (hE.gr gW1) i7;refine DT ?_ hQ hW1 hal hL hLi;clear hQ hW1 hal hL hLi;intro hQ hW1 hal hL hLi;go_enter Tryz.func4,Tryz.ntmps4;go_upto_region 1 with fail
 rw [← hW1.out];go_wp2_with fail;refine hal.out.mono ?_;rintro e w2 ⟨rfl,g2⟩;clear hal;have gA2:=gW1.trans g2;by_cases h40:40 < L.length
 ·have t40:(40:Int) < L.length:=by omega
  have t40b:decide ((40:Int) < L.length) = true:=decide_eq_true t40;go_wp2_with fail;go_ret;exact ⟨rfl,gA2⟩
 ·have t40:¬ (40:Int) < L.length:=by omega
  have t40b:decide ((40:Int) < L.length) = false:=decide_eq_false t40;have hcp:=K9 a c L w2 (hL.out.gr gA2) hLm;replace hcp:=zH hcp;go_wp2_with fail;refine hcp.out.mono ?_;rintro e w3 ⟨a3,c3,L3,rfl,hLe,hL3,hn3,hc3,hm3,g3,-,-⟩;have hl3:L3.length = L.length:=by simpa using congrArg List.length hLe
  have hi3:∀ x ∈ L3,EG x.e:=fun x hx => by
   have h1:x.e ∈ L.map (·.e):=by rw [← hLe];exact List.mem_map.2 ⟨x,hx,rfl⟩
   obtain ⟨y,hy,he⟩:=List.mem_map.1 h1;rw [← he];exact hLi.out y hy
  have hLA:=hL3.mono (K':=Any) (fun _ _ _ => trivial);have gA3:=gA2.trans g3;have hrf:=EM a c L w3 (hL.out.gr gA3) hLi.out (by omega);refine DT ?_ hLe hL3 hi3 hLA hrf;clear hLe hL3 hi3 hLA hrf;intro hLe hL3 hi3 hLA hrf;go_wp2_with fail;refine hrf.out.mono ?_;rintro e w4 ⟨T,ra,rc,rfl,hTv,hO,hTA,g4⟩;obtain ⟨V,hV⟩:=zE (w4.alloc (.cells T.row 27));have gV:Gr w4 V:=by rw [hV];exact (Gr.refl w4).alloc _
  have hT:Ag V (w4.heap.size) T.row 27:=by
   rw [hV];exact Ag.n0
  have hVz:V.heap.size = w4.heap.size + 1:=by rw [hV];simp
  have g3V:=g4.trans gV;have gAV:=gA3.trans g3V;have hTV:=(hTA.gr gV).any;have hLV:=hLA.out.gr g3V;have hOV:=As hO gV;obtain ⟨ra1,rc1,e5,hr1,-,-⟩:=Af Cf hOV;cases e5
  have hrs:=Gg a3 c3 L3 V (hE.gr gAV) i0 i1 i3 i4 hLV hi3.out (by omega);rw [NN hLe.out,hl3] at hrs;have hrl:(Cb L).length = L.length:=Ev L;obtain ⟨Rs,hRs⟩:=zE (Cb L);rw [← hRs] at hrs hr1 hrl ⊢;refine Br ?_ hTV hTA hLV hO hOV hr1 hrs hRs;clear hTV hTA hLV hO hOV hr1 hrs hRs;intro hTV hTA hLV hO hOV hr1 hrs hRs;refine AZ ?_ hTv hV hT;clear hTv hV hT;intro hTv hV hT;go_upto_region 7 with fail
  rw [← hV.out];go_wp2_with fail;refine hrs.out.mono ?_;rintro e w5 ⟨ra2,rc2,rfl,hr2,g5⟩;have hT5:=hT.out.gr g5;have hTA5:=hTV.out.gr g5;have gA5:=gAV.trans g5;have hT5:=hT.out.gr g5;have hTA5:=hTV.out.gr g5;have hdf:=fun (w':World) (g:Gr w5 w') => II a3 c3 L3 w' (hE.gr (gA5.trans g)) i0 i1 i3 i4 ((hLV.out.gr g5).gr g) hi3.out (by omega)
  rw [hl3] at hdf;have tl3:=Ih hLe.out;obtain ⟨t0,t1,t2,t3⟩:=hT5.c4;refine DT ?_ hT5 hTA5 hr2 hdf tl3;clear hT5 hTA5 hr2 hdf tl3;intro hT5 hTA5 hr2 hdf tl3;go_upto_region 8 with fail
  try rw [hrl]
  go_region_held3 (fun w' => w'.cell? ⟨w4.heap.size,0,none⟩ = some (.slice T.an T.N.length T.cn)∧w'.cell? ⟨w4.heap.size,1,none⟩ = some (.slice T.ag T.G.length T.cg)∧w'.cell? ⟨w4.heap.size,2,none⟩ = some (.int .i64 T.last)∧w'.cell? ⟨w4.heap.size,3,none⟩ = some (.int .i64 T.now)) (simp (maxDischargeDepth:=8) [go_sem, *])
   (first
    | (go_at_call 20;(with_reducible refine (hdf.out _ ((Gr.refl w5).drew)).mono ?_);rintro e w6 ⟨U,rfl,hUv,hU,g6⟩;have gq6:Gr w5 w6:=((Gr.refl w5).drew).trans g6;have hT6:=hT5.out.gr gq6;obtain ⟨m0,m1,m2,m3⟩:=hT6.c4;refine AZ ?_ hT6 hU hUv;clear hT6 hU hUv;intro hT6 hU hUv)
    | (go_at_call 15;(with_reducible refine (NH U T w6 hU.out (hTA5.out.gr gq6) (by rw [hUv.out,hTv.out,tl3.out])).mono ?_);rintro e w7 ⟨rfl,g7⟩;have gq7:Gr w5 w7:=gq6.trans g7;have hT7:=hT6.out.gr g7;obtain ⟨n0,n1,n2,n3⟩:=hT7.c4;replace hT7:=zH hT7)
    | fail)
  clear t0 t1 t2 t3 m0 m1 m2 m3 n0 n1 n2 n3;have gA7:=gA5.trans gq7;go_wp2_with fail;go_loopw [42] (fun iv wr => ∃ j:Nat,j≤L.length∧iv = .int .i64 j∧Gr w7 wr) (fun iv _ => L.length - (intOf iv).toNat);case atStart => exact ⟨0,Nat.zero_le _,rfl,Gr.refl _⟩
  case round =>
   obtain ⟨j,hj,rfl,hg⟩:=hrel;obtain ⟨wo,rfl⟩:∃ wo:World,wo = wr:=⟨wr,rfl⟩
   have g5o:=gq7.trans hg;by_cases hlt:j < L.length
   ·have tj:(j:Int) < L.length:=by omega
    obtain ⟨r,hr⟩:=Ac Rs j (by omega);obtain ⟨b1,o1,hag1,hb1,hc1⟩:=hr1.out j r hr;obtain ⟨b2,o2,hag2,hb2,hc2⟩:=hr2.out j r hr;have gVo:=g5.trans g5o;have e0:wo.cell? ⟨b1,o1 + j * 2,none⟩ = some (.int .i64 r.1):=by rw [gVo.cells.1 _ _ hb1];exact hc1 0 _ rfl
    have e1:wo.cell? ⟨b1,o1 + j * 2 + 1,none⟩ = some (.int .i64 r.2):=by rw [gVo.cells.1 _ _ hb1];exact hc1 1 _ rfl
    have f0:wo.cell? ⟨b2,o2 + j * 2,none⟩ = some (.int .i64 r.1):=by rw [g5o.cells.1 _ _ hb2];exact hc2 0 _ rfl
    have f1:wo.cell? ⟨b2,o2 + j * 2 + 1,none⟩ = some (.int .i64 r.2):=by rw [g5o.cells.1 _ _ hb2];exact hc2 1 _ rfl
    have u0:=AB.cell e0;have u1:=AB.cell e1;have v0:=AB.cell f0;have v1:=AB.cell f1;have hnq:=fun w => OP r.1 r.2 w
    rw [hag1,hag2];clear hc1 hc2;replace hr:=zH hr;go_upto_region 13 with fail
    refine Ap (by kernel_rfl) (by kernel_rfl) ?_;repeat (any_goals (first | go_big_quiet_step (first | fail) | quiet_step (first | fail)))
    refine wpQuiet_nil ?_;intro wz hwq;have gz:=AB.of hwq;clear hwq;obtain ⟨cz,fz,sz⟩:=gz.cells;try simp only [Aa] at cz fz sz
    try simp only [zL] at cz fz sz
    try simp only [zD] at cz fz sz
    try simp only [zS] at cz fz sz
    go_wp2_with fail;go_roundw;case rel => exact ⟨j + 1,by omega,by go_num,hg.trans gz⟩
    case measure => simp [intOf];omega
   ·have tj:¬ (j:Int) < L.length:=by omega
    have tjb:decide ((j:Int) < L.length) = false:=decide_eq_false tj;have gAo:=gA7.trans hg;have g3o:=g3V.trans (g5.trans g5o);have hQo:=hQ.out.gr (g2.trans (g3.trans g3o));have hda:=Kx a3 c3 L3 q k wo (hE.gr gAo) i0 i1 i3 i4 i6 (hLA.out.gr g3o) hi3.out (by omega) (by omega) hq;rw [OA hLe.out,hl3] at hda;obtain ⟨X,hX⟩:=zE (ED L k q.e.cl q.e.nu);rw [← hX] at hda;obtain ⟨R,hR⟩:=zE (K5 X q);obtain ⟨ok,hok⟩:=zE X.isSome;have tok:(ok == ok) = true:=by simp
    obtain ⟨k0,k1,k2,k3,k4,k5,k6,k7,k8,k9,k10⟩:=hQo.c11;refine DT ?_ hQo hda hX hR hok;clear hQo hda hX hR hok;intro hQo hda hX hR hok;go_wp2_with fail;refine hda.out.mono ?_;intro e w8 h8;obtain ⟨a8,c8,rfl,hB8,g8⟩:=h8.rep;rw [← hR.out,← hok.out];rw [← hR.out] at hB8;clear k0 k1 k2 k3 k4 k5 k6 k7 k8 k9 k10;obtain ⟨w9,hw9⟩:=zE (w8.alloc (.cells #[.int .i64 R.cl,.int .i64 R.nu,.int .i64 R.co,.int .i64 R.id,.slice a8 R.tree.length c8] 56));have gw9:Gr w8 w9:=by rw [hw9];exact (Gr.refl w8).alloc _
    have hA:Ag w9 (w8.heap.size) #[.int .i64 R.cl,.int .i64 R.nu,.int .i64 R.co,.int .i64 R.id,.slice a8 R.tree.length c8] 56:=by
     rw [hw9];exact Ag.n0
    have hw9z:w9.heap.size = w8.heap.size + 1:=by rw [hw9];simp
    have g89:=g8.trans gw9;have gA9:=gAo.trans g89;have hQ9:=hQo.out.gr g89;have hB9:=hB8.gr gw9;have hra:=J1 a c L q k w9 (hL.out.gr gA9) hLi.out (by omega);rw [← hX.out] at hra;obtain ⟨k0,k1,k2,k3,k4,k5,k6,k7,k8,k9,k10⟩:=hQ9.c11;refine Dn ?_ hw9 hA hB8 hB9 hQ9 hra;clear hw9 hA hB8 hB9 hQ9 hra;intro hw9 hA hB8 hB9 hQ9 hra;go_upto_region 17 with fail
    rw [← hw9.out];go_wp2_with fail;refine hra.out.mono ?_;intro e w10 h10;obtain ⟨a10,c10,rfl,hB10,g10⟩:=h10.rep;rw [← hR.out,← hok.out];rw [← hR.out] at hB10;clear k0 k1 k2 k3 k4 k5 k6 k7 k8 k9 k10;obtain ⟨w11,hw11⟩:=zE (w10.alloc (.cells #[.int .i64 R.cl,.int .i64 R.nu,.int .i64 R.co,.int .i64 R.id,.slice a10 R.tree.length c10] 56));have gw11:Gr w10 w11:=by rw [hw11];exact (Gr.refl w10).alloc _
    have hB:Ag w11 (w10.heap.size) #[.int .i64 R.cl,.int .i64 R.nu,.int .i64 R.co,.int .i64 R.id,.slice a10 R.tree.length c10] 56:=by
     rw [hw11];exact Ag.n0
    have hw11z:w11.heap.size = w10.heap.size + 1:=by rw [hw11];simp
    have g911:=g10.trans gw11;have gA11:=gA9.trans g911;have hA11:=hA.out.gr g911;have hsr:=Hc w11 R a8 a10 c8 c10 (hB9.out.gr g911) (hB10.gr gw11);have hsl:=fun (w':World) (g:Gr w11 w') => HV a3 a c3 c L3 L w' (hLA.out.gr (g3o.trans (g89.trans (g911.trans g)))) (hL.out.gr (gA11.trans g)) hLe.out (by unfold maxLen;omega)
    rw [hl3] at hsl;obtain ⟨r0,r1,r2,r3,r4⟩:=hA11.c5;obtain ⟨s0,s1,s2,s3,s4⟩:=hB.c5;refine Dn ?_ hw11 hB hA11 hB10 hsr hsl;clear hw11 hB hA11 hB10 hsr hsl;intro hw11 hB hA11 hB10 hsr hsl;go_upto_region 18 with fail
    rw [← hw11.out];go_wp2_with fail;refine hsr.out.mono ?_;rintro e w12 ⟨rfl,g12⟩;clear r0 r1 r2 r3 r4 s0 s1 s2 s3 s4;go_wp2_with fail;refine (hsl.out w12 g12).mono ?_;rintro e w13 ⟨rfl,g13⟩;go_wp2_with fail;go_ret;exact ⟨rfl,gA11.trans (g12.trans g13)⟩
end Go.Proofs.YtdfelohjdkcpkaaGreatDoor
