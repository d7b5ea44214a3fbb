/- tree.numbers, almonerref13.Put. Printed by gen_z2.py. -/
import Derived.Test.YtdfelohjdkcpkaaGreatDoorKK28
set_option maxRecDepth 100000
set_option maxHeartbeats 6400000
namespace Go.Proofs.YtdfelohjdkcpkaaGreatDoor
open Go.RowKit
theorem GP (l:List Gh):(l.flatMap H6).length = l.length * 5:=by
 induction l with
 | nil => rfl
 | cons x l ih => rw [List.flatMap_cons,List.length_append,ih,List.length_cons,show (H6 x).length = 5 from rfl];omega
theorem FP (T:TM):(BF T.v).length = (Ji T.v).length + 1 + (T.G.flatMap H6).length:=by
 unfold BF;rw [List.length_append,List.length_append];rfl
theorem Iy (T:TM):[T.last,T.now,(T.N.length:Int)].length = 3:=rfl
theorem FZ (T:TM) (k:Nat):([T.last,T.now,(T.N.length:Int)] ++ ((T.N.take k).map (·.e)).flatMap KM).length≤(BF T.v).length:=by
 rw [FP];have h1:T.v.nodes = (T.N.take k).map (·.e) ++ (T.N.drop k).map (·.e):=by
  rw [← List.map_append,List.take_append_drop]
 have h2:Ji T.v = [T.last,T.now,(T.N.length:Int)] ++ T.v.nodes.flatMap KM:=by
  unfold Ji;simp
 rw [h2,h1,List.flatMap_append];simp only [List.length_append];omega
theorem Ix (T:TM) {k:Nat} {x:Ax} (hx:T.N[k]? = some x):([T.last,T.now,(T.N.length:Int)] ++ ((T.N.take k).map (·.e)).flatMap KM).length + 7 + x.e.tasks.length * 4≤(BF T.v).length:=by
 have h1:=FZ T (k + 1);rw [Ae hx,List.map_append,List.flatMap_append] at h1;have h2:=N4 x.e;simp only [List.length_append] at h1 ⊢;have h3:([x].map (·.e)).flatMap KM = KM x.e:=by simp
 rw [h3] at h1;omega
theorem Kb (T:TM) (w:World) (hT:Av Any w T) (hlen:(BF T.v).length≤800000) :
 Calls Tryz.prog 118 #[.agg T.row] w fun e w' => ∃ a c,e = .returned (.slice a (BF T.v).length c)∧Al 1 DJ w' a (BF T.v)∧(∀ b off,a = some ⟨b,off,none⟩→w.heap.size≤b)∧Gr w w':=by
 replace hlen:=zH hlen;obtain ⟨W,hW⟩:=zE (w.alloc (.cells T.row 27));have gW:Gr w W:=by rw [hW];exact (Gr.refl w).alloc _
 have hTb:Ag W (w.heap.size) T.row 27:=by
  rw [hW];exact Ag.n0
 have hWz:W.heap.size = w.heap.size + 1:=by rw [hW];simp
 have hN1:=hT.l1;have hG1:=hT.l2;have hTR:=hT.gr gW;have hl3:=Iy T;have hO0:Dp W (W.alloc (.cells #[.int .i64 T.last,.int .i64 T.now,.int .i64 (T.N.length:Int)] 3)) (some ⟨W.heap.size,0,none⟩) 3 [T.last,T.now,(T.N.length:Int)]:=J8 (n:=3) W rfl rfl _ rfl (by decide);have hTl:=hTb.lt;obtain ⟨t0,t1,t2,t3⟩:=hTb.c4;refine Dn ?_ hTb hTR hO0 hWz hW hl3;clear hTb hTR hO0 hWz hW hl3;intro hTb hTR hO0 hWz hW hl3;go_enter Tryz.func118,Tryz.ntmps118;go_upto_region 1 with fail
 rw [← hW.out];clear hT;go_wp2_with fail;go_loopw [3,21] (fun lv kv wr => ∃ (k:Nat) (L:List Int) (a1:Option Addr) (c1:Nat),k≤T.N.length∧kv = .int .i64 k∧lv = .slice a1 L.length c1∧Hid (L = [T.last,T.now,(T.N.length:Int)] ++ ((T.N.take k).map (·.e)).flatMap KM)∧Hid (Dp W wr a1 c1 L)) (fun _ kv _ => T.N.length - (intOf kv).toNat);case atStart => exact ⟨0,[T.last,T.now,(T.N.length:Int)],_,_,Nat.zero_le _,rfl,rfl,Lib.hid (by simp),hO0⟩
 case round =>
  obtain ⟨k,L,a1,c1,hk,rfl,rfl,hL,hO⟩:=hrel;obtain ⟨wo,rfl⟩:∃ wo:World,wo = wr:=⟨_,rfl⟩
  have hLl:L.length≤900000:=by
   have h1:=hlen.out;rw [hL.out];exact Nat.le_trans (FZ T k) (by omega)
  have gwo:=hO.out.2.2.2.2;by_cases hlt:k < T.N.length
  ·obtain ⟨x,hx⟩:=Ac T.N k hlt;obtain ⟨b,off,hag,hb,_,d0,d1,d2,d3,d4,d5,d6⟩:=(hTR.out.gr gwo).n.get hx;have hxo:=((hTR.out.gr gwo).n.2 x (AL hx)).1.1;have hxc:=Hl ((hTR.out.gr gwo).n.2 x (AL hx));rw [hag];obtain ⟨nb,hnb⟩:=zE wo.heap.size;obtain ⟨wa,hwa⟩:=zE (wo.alloc (.cells #[.int .i64 x.e.id,.int .i64 x.e.par,.int .i64 x.e.srv.k,.int .i64 x.e.srv.q,.int .i64 x.e.srv.t,.int .i64 x.e.pol,.slice x.a x.e.tasks.length x.c] 39));have ga:Gr wo wa:=by rw [hwa];exact (Gr.refl _).alloc _
   have hXa:Ag wa nb #[.int .i64 x.e.id,.int .i64 x.e.par,.int .i64 x.e.srv.k,.int .i64 x.e.srv.q,.int .i64 x.e.srv.t,.int .i64 x.e.pol,.slice x.a x.e.tasks.length x.c] 39:=by rw [hwa,hnb];exact Ag.new _ _ _
   have haz:wa.heap.size = nb + 1:=by rw [hwa,hnb];simp
   have hO1:=(hO.out.gr ga).gr ((Gr.refl wa).alloc (.cells #[.int .i64 x.e.id,.int .i64 x.e.par,.int .i64 x.e.srv.k,.int .i64 x.e.srv.q,.int .i64 x.e.srv.t,.int .i64 x.e.pol,.int .i64 (x.e.tasks.length:Int)] 3));have hX1:=hXa.gr ((Gr.refl wa).alloc (.cells #[.int .i64 x.e.id,.int .i64 x.e.par,.int .i64 x.e.srv.k,.int .i64 x.e.srv.q,.int .i64 x.e.srv.t,.int .i64 x.e.pol,.int .i64 (x.e.tasks.length:Int)] 3));have hs1:Al 1 DJ (wa.alloc (.cells #[.int .i64 x.e.id,.int .i64 x.e.par,.int .i64 x.e.srv.k,.int .i64 x.e.srv.q,.int .i64 x.e.srv.t,.int .i64 x.e.pol,.int .i64 (x.e.tasks.length:Int)] 3)) (some ⟨wa.heap.size,0,none⟩) (Pb x.e):=BO Ch _ rfl _ _ _ rfl;have hXl:=hXa.lt;have htk:(T.N.take (k + 1)).map (·.e) = (T.N.take k).map (·.e) ++ [x.e]:=by rw [Ae hx,List.map_append];rfl
   have hxl:=Ix T hx;obtain ⟨y0,y1,y2,y3,y4,y5,y6⟩:=hXa.c7;refine Br ?_ hx hxo hnb hwa hXa haz hO1 hX1;clear hx hxo hnb hwa hXa haz hO1 hX1;intro hx hxo hnb hwa hXa haz hO1 hX1;refine AZ ?_ hs1 htk hxl;clear hs1 htk hxl;intro hs1 htk hxl;go_upto_region 5 with fail
   rw [← hnb.out,← hwa.out];clear d0 d1 d2 d3 d4 d5 d6;go_wp2_with (at_builtin;go_loud (refine B2 (W:=W) rfl _ _ rfl a1 c1 L rfl hO1.out (some ⟨wa.heap.size,0,none⟩) 7 (Pb x.e) rfl hs1.out (fun h => by cases h) (by show L.length + 7≤_;omega) ?_;intro a2 c2 w2 hO2 hg2;have hX2:=Dp.blk hO1.out hX1.out (by decide) hg2;clear hg2;have z6:=hX2.cell (i:=6) (v:=.slice x.a x.e.tasks.length x.c) rfl;have z7:=hX2.lt;replace hO2:=zH hO2;replace hX2:=zH hX2));clear y0 y1 y2 y3 y4 y5 y6;obtain ⟨M,hM⟩:=zE (L ++ Pb x.e);rw [← hM] at hO2;have hMl:M.length = L.length + 7:=by rw [hM,List.length_append];rfl
   have g2:=hO2.out.2.2.2.2;replace hM:=zH hM;go_wp2_with fail;go_loopw [3,49] (fun lv kv wr => ∃ (j:Nat) (L2:List Int) (a3:Option Addr) (c3:Nat),j≤x.e.tasks.length∧kv = .int .i64 j∧lv = .slice a3 L2.length c3∧Hid (L2 = M ++ (x.e.tasks.take j).flatMap B1)∧Hid (Dp W wr a3 c3 L2)) (fun _ kv _ => x.e.tasks.length - (intOf kv).toNat);case atStart => exact ⟨0,M,_,_,Nat.zero_le _,rfl,by rw [hM.out,List.length_append] <;> rfl,Lib.hid (by simp),hO2⟩
   case round =>
    obtain ⟨j,L2,a3,c3,hj,rfl,rfl,hL2,hO3⟩:=hrel;obtain ⟨wi,rfl⟩:∃ wi:World,wi = wr:=⟨_,rfl⟩
    have hL2l:L2.length≤950000:=by
     have h1:=hlen.out;have h2:=hxl.out;have h3:=congrArg List.length hL.out;rw [hL2.out,List.length_append,DD,List.length_take];omega
    have gwi:=hO3.out.2.2.2.2;by_cases hjl:j < x.e.tasks.length
    ·obtain ⟨t,ht⟩:=Ac x.e.tasks j hjl;obtain ⟨b3,off3,hag3,hb3,e0,e1,e2,e3⟩:=DV (w:=wi) (((hTR.out.gr gwi).n.2 x (AL hx.out)).1.1) ht;rw [hag3];have hts:(x.e.tasks.take (j + 1)).flatMap B1 = (x.e.tasks.take j).flatMap B1 ++ B1 t:=by rw [Ae ht,List.flatMap_append];simp
     have hO4:=(hO3.out.gr ((Gr.refl wi).alloc (.cells #[.int .i64 t.c,.int .i64 t.p,.int .i64 t.d,.int .i64 t.s] 41))).gr ((Gr.refl _).alloc (.cells #[.int .i64 t.c,.int .i64 t.p,.int .i64 t.d,.int .i64 t.s] 3));have hs4:Al 1 DJ ((wi.alloc (.cells #[.int .i64 t.c,.int .i64 t.p,.int .i64 t.d,.int .i64 t.s] 41)).alloc (.cells #[.int .i64 t.c,.int .i64 t.p,.int .i64 t.d,.int .i64 t.s] 3)) (some ⟨wi.heap.size + 1,0,none⟩) (B1 t):=BO Ch _ (by simp) _ _ _ rfl;refine B0 ?_ hO4 hs4 hts ht;clear hO4 hs4 hts ht;intro hO4 hs4 hts ht;go_wp2_with (at_builtin;go_loud (refine B2 (W:=W) rfl _ _ rfl a3 c3 L2 rfl hO4.out (some ⟨wi.heap.size + 1,0,none⟩) 4 (B1 t) rfl hs4.out (fun h => by cases h) (by show L2.length + 4≤_;omega) ?_;intro a4 c4 w4 hO5 hg5;clear hg5;replace hO5:=zH hO5));go_roundw;case rel => exact ⟨j + 1,L2 ++ B1 t,a4,c4,by omega,by go_num,by rw [List.length_append],Lib.hid (by rw [hts.out,← List.append_assoc,← hL2.out]),hO5⟩
     case measure => simp [intOf];omega
    ·have hje:j = x.e.tasks.length:=by omega
     have hjb:decide ((j:Int) < x.e.tasks.length) = false:=decide_eq_false (by omega);have hLn:L2 = [T.last,T.now,(T.N.length:Int)] ++ ((T.N.take (k + 1)).map (·.e)).flatMap KM:=by
      rw [hL2.out,hje,List.take_length,hM.out,hL.out,htk.out,List.flatMap_append];simp [KM]
     replace hje:=zH hje;replace hLn:=zH hLn;go_wp2_with fail;go_roundw;case rel => exact ⟨k + 1,L2,a3,c3,by omega,by go_num,rfl,hLn,hO3⟩
     case measure => simp [intOf];omega
  ·have hke:k = T.N.length:=by omega
   have hkb:decide ((k:Int) < T.N.length) = false:=decide_eq_false (by omega);have hLe:L = Ji T.v:=by
    rw [hL.out,hke,List.take_length];unfold Ji;simp
   have hTo:=hTb.out.gr gwo;have hTRo:=hTR.out.gr gwo;have u1:=hTo.cell (i:=1) (v:=.slice T.ag T.G.length T.cg) rfl;have u1z:=hTo.lt;have hO1:=hO.out.gr ((Gr.refl wo).alloc (.cells #[.int .i64 (T.G.length:Int)] 3));have hs1:Al 1 DJ (wo.alloc (.cells #[.int .i64 (T.G.length:Int)] 3)) (some ⟨wo.heap.size,0,none⟩) [(T.G.length:Int)]:=BO Ch _ rfl _ _ _ rfl;refine Dn ?_ hke hLe hTo hTRo hO1 hs1;clear hke hLe hTo hTRo hO1 hs1;intro hke hLe hTo hTRo hO1 hs1;go_upto_region 13 with (at_builtin;go_loud (refine B2 (W:=W) rfl _ _ rfl a1 c1 L rfl hO1.out (some ⟨wo.heap.size,0,none⟩) 1 [(T.G.length:Int)] rfl hs1.out (fun h => by cases h) (by show L.length + 1≤_;omega) ?_;intro a2 c2 w2 hO2 hg2;clear hg2;replace hO2:=zH hO2))
   clear u1 u1z;obtain ⟨M,hM⟩:∃ M,M = L ++ [(T.G.length:Int)]:=⟨_,rfl⟩
   rw [← hM] at hO2;have hMl:M.length = L.length + 1:=by rw [hM,List.length_append];rfl
   have g2:=hO2.out.2.2.2.2;have hT2:=hTb.out.gr g2;have u1:=hT2.cell (i:=1) (v:=.slice T.ag T.G.length T.cg) rfl;have u1z:=hT2.lt;replace hT2:=zH hT2;replace hM:=zH hM;go_wp2_with fail;go_loopw [3,75] (fun lv kv wr => ∃ (j:Nat) (L2:List Int) (a3:Option Addr) (c3:Nat),j≤T.G.length∧kv = .int .i64 j∧lv = .slice a3 L2.length c3∧Hid (L2 = M ++ (T.G.take j).flatMap H6)∧Hid (Dp W wr a3 c3 L2)) (fun _ kv _ => T.G.length - (intOf kv).toNat);case atStart => exact ⟨0,M,_,_,Nat.zero_le _,rfl,by rw [hM.out,List.length_append] <;> rfl,Lib.hid (by simp),hO2⟩
   case round =>
    obtain ⟨j,L2,a3,c3,hj,rfl,rfl,hL2,hO3⟩:=hrel;obtain ⟨wi,rfl⟩:∃ wi:World,wi = wr:=⟨_,rfl⟩
    have hL2l:L2.length≤950000:=by
     have h1:=hlen.out;have h2:=GP (T.G.take j);have h5:=GP T.G;have h3:=hLe.out;have h4:=FP T;rw [h3] at hMl;rw [hL2.out,List.length_append];rw [List.length_take] at h2;omega
    have gwi:=hO3.out.2.2.2.2;by_cases hjl:j < T.G.length
    ·obtain ⟨g,hg⟩:=Ac T.G j hjl;obtain ⟨b3,off3,hag3,hb3,_,e0,e1,e2,e3,e4⟩:=CF (hTR.out.gr gwi).g hg;rw [hag3];have hts:(T.G.take (j + 1)).flatMap H6 = (T.G.take j).flatMap H6 ++ H6 g:=by rw [Ae hg,List.flatMap_append];simp
     have hO4:=(hO3.out.gr ((Gr.refl wi).alloc (.cells #[.int .i64 g.par,.int .i64 g.srv.k,.int .i64 g.srv.q,.int .i64 g.srv.t,.int .i64 g.till] 43))).gr ((Gr.refl _).alloc (.cells #[.int .i64 g.par,.int .i64 g.srv.k,.int .i64 g.srv.q,.int .i64 g.srv.t,.int .i64 g.till] 3));have hs4:Al 1 DJ ((wi.alloc (.cells #[.int .i64 g.par,.int .i64 g.srv.k,.int .i64 g.srv.q,.int .i64 g.srv.t,.int .i64 g.till] 43)).alloc (.cells #[.int .i64 g.par,.int .i64 g.srv.k,.int .i64 g.srv.q,.int .i64 g.srv.t,.int .i64 g.till] 3)) (some ⟨wi.heap.size + 1,0,none⟩) (H6 g):=BO Ch _ (by simp) _ _ _ rfl;refine B0 ?_ hO4 hs4 hts hg;clear hO4 hs4 hts hg;intro hO4 hs4 hts hg;go_wp2_with (at_builtin;go_loud (refine B2 (W:=W) rfl _ _ rfl a3 c3 L2 rfl hO4.out (some ⟨wi.heap.size + 1,0,none⟩) 5 (H6 g) rfl hs4.out (fun h => by cases h) (by show L2.length + 5≤_;omega) ?_;intro a4 c4 w4 hO5 hg5;clear hg5;replace hO5:=zH hO5));go_roundw;case rel => exact ⟨j + 1,L2 ++ H6 g,a4,c4,by omega,by go_num,by rw [List.length_append],Lib.hid (by rw [hts.out,← List.append_assoc,← hL2.out]),hO5⟩
     case measure => simp [intOf];omega
    ·have hje:j = T.G.length:=by omega
     have hjb:decide ((j:Int) < T.G.length) = false:=decide_eq_false (by omega);have hLn:L2 = BF T.v:=by
      rw [hL2.out,hje,List.take_length,hM.out,hLe.out];rfl
     replace hje:=zH hje;replace hLn:=zH hLn;go_wp2_with fail;go_ret;exact ⟨a3,c3,by rw [hLn.out];rfl,by rw [← hLn.out];exact hO3.out.2.1,fun b off ha => by have h1:=hO3.out.2.2.2.1 _ ha;have h2:=gW.size;dsimp only at h1;omega,gW.trans gwi⟩
theorem Mr (T:TM) (w:World) (hT:Av Any w T) (hlen:(BF T.v).length≤800000) (hw:CY (BF T.v)) :
 Calls Tryz.prog 68 #[.agg T.row] w fun e w' => ∃ a c,e = .returned (.slice a (AM (BF T.v)).length c)∧Own w w' a c (AM (BF T.v)):=by
 replace hlen:=zH hlen;replace hw:=zH hw;obtain ⟨W,hW⟩:=zE (w.alloc (.cells T.row 27));have gW:Gr w W:=by rw [hW];exact (Gr.refl w).alloc _
 have hTb:Ag W (w.heap.size) T.row 27:=by
  rw [hW];exact Ag.n0
 have hWz:W.heap.size = w.heap.size + 1:=by rw [hW];simp
 have hN1:=hT.l1;have hG1:=hT.l2;have hTR:=hT.gr gW;have hl3:=Iy T;have hO0:Dp W (W.alloc (.cells #[.int .i64 T.last,.int .i64 T.now,.int .i64 (T.N.length:Int)] 3)) (some ⟨W.heap.size,0,none⟩) 3 [T.last,T.now,(T.N.length:Int)]:=J8 (n:=3) W rfl rfl _ rfl (by decide);have hTl:=hTb.lt;obtain ⟨t0,t1,t2,t3⟩:=hTb.c4;refine Dn ?_ hTb hTR hO0 hWz hW hl3;clear hTb hTR hO0 hWz hW hl3;intro hTb hTR hO0 hWz hW hl3;go_enter Tryz.func68,Tryz.ntmps68;go_upto_region 1 with fail
 rw [← hW.out];clear hT;go_wp2_with fail;go_loopw [3,24] (fun lv kv wr => ∃ (k:Nat) (L:List Int) (a1:Option Addr) (c1:Nat),k≤T.N.length∧kv = .int .i64 k∧lv = .slice a1 L.length c1∧Hid (L = [T.last,T.now,(T.N.length:Int)] ++ ((T.N.take k).map (·.e)).flatMap KM)∧Hid (Dp W wr a1 c1 L)) (fun _ kv _ => T.N.length - (intOf kv).toNat);case atStart => exact ⟨0,[T.last,T.now,(T.N.length:Int)],_,_,Nat.zero_le _,rfl,rfl,Lib.hid (by simp),hO0⟩
 case round =>
  obtain ⟨k,L,a1,c1,hk,rfl,rfl,hL,hO⟩:=hrel;obtain ⟨wo,rfl⟩:∃ wo:World,wo = wr:=⟨_,rfl⟩
  have hLl:L.length≤900000:=by
   have h1:=hlen.out;rw [hL.out];exact Nat.le_trans (FZ T k) (by omega)
  have gwo:=hO.out.2.2.2.2;by_cases hlt:k < T.N.length
  ·obtain ⟨x,hx⟩:=Ac T.N k hlt;obtain ⟨b,off,hag,hb,_,d0,d1,d2,d3,d4,d5,d6⟩:=(hTR.out.gr gwo).n.get hx;have hxo:=((hTR.out.gr gwo).n.2 x (AL hx)).1.1;have hxc:=Hl ((hTR.out.gr gwo).n.2 x (AL hx));rw [hag];obtain ⟨nb,hnb⟩:=zE wo.heap.size;obtain ⟨wa,hwa⟩:=zE (wo.alloc (.cells #[.int .i64 x.e.id,.int .i64 x.e.par,.int .i64 x.e.srv.k,.int .i64 x.e.srv.q,.int .i64 x.e.srv.t,.int .i64 x.e.pol,.slice x.a x.e.tasks.length x.c] 39));have ga:Gr wo wa:=by rw [hwa];exact (Gr.refl _).alloc _
   have hXa:Ag wa nb #[.int .i64 x.e.id,.int .i64 x.e.par,.int .i64 x.e.srv.k,.int .i64 x.e.srv.q,.int .i64 x.e.srv.t,.int .i64 x.e.pol,.slice x.a x.e.tasks.length x.c] 39:=by rw [hwa,hnb];exact Ag.new _ _ _
   have haz:wa.heap.size = nb + 1:=by rw [hwa,hnb];simp
   have hO1:=(hO.out.gr ga).gr ((Gr.refl wa).alloc (.cells #[.int .i64 x.e.id,.int .i64 x.e.par,.int .i64 x.e.srv.k,.int .i64 x.e.srv.q,.int .i64 x.e.srv.t,.int .i64 x.e.pol,.int .i64 (x.e.tasks.length:Int)] 3));have hX1:=hXa.gr ((Gr.refl wa).alloc (.cells #[.int .i64 x.e.id,.int .i64 x.e.par,.int .i64 x.e.srv.k,.int .i64 x.e.srv.q,.int .i64 x.e.srv.t,.int .i64 x.e.pol,.int .i64 (x.e.tasks.length:Int)] 3));have hs1:Al 1 DJ (wa.alloc (.cells #[.int .i64 x.e.id,.int .i64 x.e.par,.int .i64 x.e.srv.k,.int .i64 x.e.srv.q,.int .i64 x.e.srv.t,.int .i64 x.e.pol,.int .i64 (x.e.tasks.length:Int)] 3)) (some ⟨wa.heap.size,0,none⟩) (Pb x.e):=BO Ch _ rfl _ _ _ rfl;have hXl:=hXa.lt;have htk:(T.N.take (k + 1)).map (·.e) = (T.N.take k).map (·.e) ++ [x.e]:=by rw [Ae hx,List.map_append];rfl
   have hxl:=Ix T hx;obtain ⟨y0,y1,y2,y3,y4,y5,y6⟩:=hXa.c7;refine Br ?_ hx hxo hnb hwa hXa haz hO1 hX1;clear hx hxo hnb hwa hXa haz hO1 hX1;intro hx hxo hnb hwa hXa haz hO1 hX1;refine AZ ?_ hs1 htk hxl;clear hs1 htk hxl;intro hs1 htk hxl;go_upto_region 5 with fail
   rw [← hnb.out,← hwa.out];clear d0 d1 d2 d3 d4 d5 d6;go_wp2_with (at_builtin;go_loud (refine B2 (W:=W) rfl _ _ rfl a1 c1 L rfl hO1.out (some ⟨wa.heap.size,0,none⟩) 7 (Pb x.e) rfl hs1.out (fun h => by cases h) (by show L.length + 7≤_;omega) ?_;intro a2 c2 w2 hO2 hg2;have hX2:=Dp.blk hO1.out hX1.out (by decide) hg2;clear hg2;have z6:=hX2.cell (i:=6) (v:=.slice x.a x.e.tasks.length x.c) rfl;have z7:=hX2.lt;replace hO2:=zH hO2;replace hX2:=zH hX2));clear y0 y1 y2 y3 y4 y5 y6;obtain ⟨M,hM⟩:=zE (L ++ Pb x.e);rw [← hM] at hO2;have hMl:M.length = L.length + 7:=by rw [hM,List.length_append];rfl
   have g2:=hO2.out.2.2.2.2;replace hM:=zH hM;go_wp2_with fail;go_loopw [3,52] (fun lv kv wr => ∃ (j:Nat) (L2:List Int) (a3:Option Addr) (c3:Nat),j≤x.e.tasks.length∧kv = .int .i64 j∧lv = .slice a3 L2.length c3∧Hid (L2 = M ++ (x.e.tasks.take j).flatMap B1)∧Hid (Dp W wr a3 c3 L2)) (fun _ kv _ => x.e.tasks.length - (intOf kv).toNat);case atStart => exact ⟨0,M,_,_,Nat.zero_le _,rfl,by rw [hM.out,List.length_append] <;> rfl,Lib.hid (by simp),hO2⟩
   case round =>
    obtain ⟨j,L2,a3,c3,hj,rfl,rfl,hL2,hO3⟩:=hrel;obtain ⟨wi,rfl⟩:∃ wi:World,wi = wr:=⟨_,rfl⟩
    have hL2l:L2.length≤950000:=by
     have h1:=hlen.out;have h2:=hxl.out;have h3:=congrArg List.length hL.out;rw [hL2.out,List.length_append,DD,List.length_take];omega
    have gwi:=hO3.out.2.2.2.2;by_cases hjl:j < x.e.tasks.length
    ·obtain ⟨t,ht⟩:=Ac x.e.tasks j hjl;obtain ⟨b3,off3,hag3,hb3,e0,e1,e2,e3⟩:=DV (w:=wi) (((hTR.out.gr gwi).n.2 x (AL hx.out)).1.1) ht;rw [hag3];have hts:(x.e.tasks.take (j + 1)).flatMap B1 = (x.e.tasks.take j).flatMap B1 ++ B1 t:=by rw [Ae ht,List.flatMap_append];simp
     have hO4:=(hO3.out.gr ((Gr.refl wi).alloc (.cells #[.int .i64 t.c,.int .i64 t.p,.int .i64 t.d,.int .i64 t.s] 41))).gr ((Gr.refl _).alloc (.cells #[.int .i64 t.c,.int .i64 t.p,.int .i64 t.d,.int .i64 t.s] 3));have hs4:Al 1 DJ ((wi.alloc (.cells #[.int .i64 t.c,.int .i64 t.p,.int .i64 t.d,.int .i64 t.s] 41)).alloc (.cells #[.int .i64 t.c,.int .i64 t.p,.int .i64 t.d,.int .i64 t.s] 3)) (some ⟨wi.heap.size + 1,0,none⟩) (B1 t):=BO Ch _ (by simp) _ _ _ rfl;refine B0 ?_ hO4 hs4 hts ht;clear hO4 hs4 hts ht;intro hO4 hs4 hts ht;go_wp2_with (at_builtin;go_loud (refine B2 (W:=W) rfl _ _ rfl a3 c3 L2 rfl hO4.out (some ⟨wi.heap.size + 1,0,none⟩) 4 (B1 t) rfl hs4.out (fun h => by cases h) (by show L2.length + 4≤_;omega) ?_;intro a4 c4 w4 hO5 hg5;clear hg5;replace hO5:=zH hO5));go_roundw;case rel => exact ⟨j + 1,L2 ++ B1 t,a4,c4,by omega,by go_num,by rw [List.length_append],Lib.hid (by rw [hts.out,← List.append_assoc,← hL2.out]),hO5⟩
     case measure => simp [intOf];omega
    ·have hje:j = x.e.tasks.length:=by omega
     have hjb:decide ((j:Int) < x.e.tasks.length) = false:=decide_eq_false (by omega);have hLn:L2 = [T.last,T.now,(T.N.length:Int)] ++ ((T.N.take (k + 1)).map (·.e)).flatMap KM:=by
      rw [hL2.out,hje,List.take_length,hM.out,hL.out,htk.out,List.flatMap_append];simp [KM]
     replace hje:=zH hje;replace hLn:=zH hLn;go_wp2_with fail;go_roundw;case rel => exact ⟨k + 1,L2,a3,c3,by omega,by go_num,rfl,hLn,hO3⟩
     case measure => simp [intOf];omega
  ·have hke:k = T.N.length:=by omega
   have hkb:decide ((k:Int) < T.N.length) = false:=decide_eq_false (by omega);have hLe:L = Ji T.v:=by
    rw [hL.out,hke,List.take_length];unfold Ji;simp
   have hTo:=hTb.out.gr gwo;have hTRo:=hTR.out.gr gwo;have u1:=hTo.cell (i:=1) (v:=.slice T.ag T.G.length T.cg) rfl;have u1z:=hTo.lt;have hO1:=hO.out.gr ((Gr.refl wo).alloc (.cells #[.int .i64 (T.G.length:Int)] 3));have hs1:Al 1 DJ (wo.alloc (.cells #[.int .i64 (T.G.length:Int)] 3)) (some ⟨wo.heap.size,0,none⟩) [(T.G.length:Int)]:=BO Ch _ rfl _ _ _ rfl;refine Dn ?_ hke hLe hTo hTRo hO1 hs1;clear hke hLe hTo hTRo hO1 hs1;intro hke hLe hTo hTRo hO1 hs1;go_upto_region 13 with (at_builtin;go_loud (refine B2 (W:=W) rfl _ _ rfl a1 c1 L rfl hO1.out (some ⟨wo.heap.size,0,none⟩) 1 [(T.G.length:Int)] rfl hs1.out (fun h => by cases h) (by show L.length + 1≤_;omega) ?_;intro a2 c2 w2 hO2 hg2;clear hg2;replace hO2:=zH hO2))
   clear u1 u1z;obtain ⟨M,hM⟩:∃ M,M = L ++ [(T.G.length:Int)]:=⟨_,rfl⟩
   rw [← hM] at hO2;have hMl:M.length = L.length + 1:=by rw [hM,List.length_append];rfl
   have g2:=hO2.out.2.2.2.2;have hT2:=hTb.out.gr g2;have u1:=hT2.cell (i:=1) (v:=.slice T.ag T.G.length T.cg) rfl;have u1z:=hT2.lt;replace hT2:=zH hT2;replace hM:=zH hM;go_wp2_with fail;go_loopw [3,78] (fun lv kv wr => ∃ (j:Nat) (L2:List Int) (a3:Option Addr) (c3:Nat),j≤T.G.length∧kv = .int .i64 j∧lv = .slice a3 L2.length c3∧Hid (L2 = M ++ (T.G.take j).flatMap H6)∧Hid (Dp W wr a3 c3 L2)) (fun _ kv _ => T.G.length - (intOf kv).toNat);case atStart => exact ⟨0,M,_,_,Nat.zero_le _,rfl,by rw [hM.out,List.length_append] <;> rfl,Lib.hid (by simp),hO2⟩
   case round =>
    obtain ⟨j,L2,a3,c3,hj,rfl,rfl,hL2,hO3⟩:=hrel;obtain ⟨wi,rfl⟩:∃ wi:World,wi = wr:=⟨_,rfl⟩
    have hL2l:L2.length≤950000:=by
     have h1:=hlen.out;have h2:=GP (T.G.take j);have h5:=GP T.G;have h3:=hLe.out;have h4:=FP T;rw [h3] at hMl;rw [hL2.out,List.length_append];rw [List.length_take] at h2;omega
    have gwi:=hO3.out.2.2.2.2;by_cases hjl:j < T.G.length
    ·obtain ⟨g,hg⟩:=Ac T.G j hjl;obtain ⟨b3,off3,hag3,hb3,_,e0,e1,e2,e3,e4⟩:=CF (hTR.out.gr gwi).g hg;rw [hag3];have hts:(T.G.take (j + 1)).flatMap H6 = (T.G.take j).flatMap H6 ++ H6 g:=by rw [Ae hg,List.flatMap_append];simp
     have hO4:=(hO3.out.gr ((Gr.refl wi).alloc (.cells #[.int .i64 g.par,.int .i64 g.srv.k,.int .i64 g.srv.q,.int .i64 g.srv.t,.int .i64 g.till] 43))).gr ((Gr.refl _).alloc (.cells #[.int .i64 g.par,.int .i64 g.srv.k,.int .i64 g.srv.q,.int .i64 g.srv.t,.int .i64 g.till] 3));have hs4:Al 1 DJ ((wi.alloc (.cells #[.int .i64 g.par,.int .i64 g.srv.k,.int .i64 g.srv.q,.int .i64 g.srv.t,.int .i64 g.till] 43)).alloc (.cells #[.int .i64 g.par,.int .i64 g.srv.k,.int .i64 g.srv.q,.int .i64 g.srv.t,.int .i64 g.till] 3)) (some ⟨wi.heap.size + 1,0,none⟩) (H6 g):=BO Ch _ (by simp) _ _ _ rfl;refine B0 ?_ hO4 hs4 hts hg;clear hO4 hs4 hts hg;intro hO4 hs4 hts hg;go_wp2_with (at_builtin;go_loud (refine B2 (W:=W) rfl _ _ rfl a3 c3 L2 rfl hO4.out (some ⟨wi.heap.size + 1,0,none⟩) 5 (H6 g) rfl hs4.out (fun h => by cases h) (by show L2.length + 5≤_;omega) ?_;intro a4 c4 w4 hO5 hg5;clear hg5;replace hO5:=zH hO5));go_roundw;case rel => exact ⟨j + 1,L2 ++ H6 g,a4,c4,by omega,by go_num,by rw [List.length_append],Lib.hid (by rw [hts.out,← List.append_assoc,← hL2.out]),hO5⟩
     case measure => simp [intOf];omega
    ·have hje:j = T.G.length:=by omega
     have hjb:decide ((j:Int) < T.G.length) = false:=decide_eq_false (by omega);have hLn:L2 = BF T.v:=by
      rw [hL2.out,hje,List.take_length,hM.out,hLe.out];rfl
     replace hje:=zH hje;replace hLn:=zH hLn;have hE0:=Iw wi #[] rfl;have hri:=hO3.out.2.1;replace hE0:=zH hE0;replace hri:=zH hri;go_wp2_with fail;go_loopw [10,102] (fun bv kv wr => ∃ (k:Nat) (B:List UInt8) (a5:Option Addr) (c5:Nat),k≤L2.length∧kv = .int .i64 k∧bv = .slice a5 B.length c5∧Hid (B = AM (L2.take k))∧Hid (Own wi wr a5 c5 B)) (fun _ kv _ => L2.length - (intOf kv).toNat);case atStart => exact ⟨0,[],_,_,Nat.zero_le _,rfl,rfl,Lib.hid rfl,hE0⟩
     case round =>
      obtain ⟨n,B,a5,c5,hn,rfl,rfl,hB,hOB⟩:=hrel;have hnt:CY (L2.take n):=fun m hm => by have:=List.mem_of_mem_take hm;rw [hLn.out] at this;exact hw.out m this
      have hBl:B.length≤10000000:=by
       have h1:=FN hnt;have h2:(L2.take n).length≤950000:=by rw [List.length_take];omega
       rw [hB.out];omega
      by_cases hnl:n < L2.length
      ·have hnl2:(n:Int) < L2.length:=by omega
       obtain ⟨v,hv⟩:=Ac L2 n hnl;obtain ⟨v0,v1⟩:=hw.out v (by rw [← hLn.out];exact List.mem_of_getElem? hv);obtain ⟨m,rfl⟩:∃ m:Nat,v = m:=⟨v.toNat,by omega⟩
       have hr2:Al 1 DJ wr a3 L2:=Al.of_below hri.out (B:=wi.heap.size) (fun x hx => Al.lt hri.out hx (by intro e;rw [e] at hnl;simp at hnl)) hOB.out.2.2.2.2;obtain ⟨b6,off6,hab,hbl,hcl⟩:=hr2 n (m:Int) hv;rw [hab];have hcell:wr.cell? ⟨b6,off6 + n,none⟩ = some (.int .i64 (m:Int)):=by have:=hcl 0 _ rfl;simpa using this
       have hnum:=NT wr m (by omega);have hnl3:=EP (n:=m) (by omega);have hsn:AM (L2.take (n + 1)) = AM (L2.take n) ++ BX m:=by rw [Ae hv,CO];rfl
       obtain ⟨N,hN⟩:=zE (BX m);rw [← hN] at hnum hsn hnl3;refine B0 ?_ hnum hsn hN hnt;clear hnum hsn hN hnt;intro hnum hsn hN hnt;clear hv hcl hr2;go_wp2_with fail;refine hnum.out.mono ?_;rintro r w6 ⟨a6,c6,rfl,hO6⟩;have hOw:=hOB.out.gr hO6.2.2.2.2;replace hO6:=zH hO6;replace hOw:=zH hOw;go_wp2_with (at_builtin;go_loud (refine E7 (W:=wi) rfl _ _ rfl a5 c5 B rfl hOw.out a6 c6 N rfl hO6.out.2.1 hO6.out.2.2.1 (by omega) ?_;intro a7 c7 w7 hO7 hg7;replace hO7:=zH hO7;clear hg7));go_roundw;case rel => exact ⟨n + 1,B ++ N,a7,c7,by omega,by go_num,by rw [List.length_append],Lib.hid (by rw [hsn.out,hB.out]),hO7⟩
       case measure => simp [intOf];omega
      ·have hne:n = L2.length:=by omega
       have hnb2:decide ((n:Int) < L2.length) = false:=decide_eq_false (by omega);have hBe:B = AM (BF T.v):=by rw [hB.out,hne,List.take_length,hLn.out]
       refine AZ ?_ hne hBe hnt;clear hne hBe hnt;intro hne hBe hnt;go_wp2_with fail;go_ret;exact ⟨a5,c5,by rw [hBe.out];rfl,by rw [← hBe.out];exact hOB.out.older (gW.trans gwi)⟩
theorem J3 (L:List At) (c n:Int):Hf L c n = match He (L.map (·.e)) c n with
 | some k => (k:Int)
 | none => -1:=by
 have key:∀ L:List At,L.findIdx? (fun x => Ca c n x.e) = He (L.map (·.e)) c n:=by
  intro L;induction L with
  | nil => rfl
  | cons x r ih =>
   rw [List.findIdx?_cons,List.map_cons];unfold He;by_cases hc:x.e.cl = c∧x.e.nu = n
   ·rw [if_pos hc,if_pos (by unfold Ca;simp [hc.1,hc.2])]
   ·rw [if_neg hc,if_neg (by unfold Ca;simpa using hc),ih]
 unfold Hf;rw [key];cases He (L.map (·.e)) c n <;> rfl
theorem Cc.take {K:Nat→Prop} {w:World} {a:Option Addr} {L:List At} (h:Cc K w a L) (k:Nat):Cc K w a (L.take k):=by
 have hk:∀ (i:Nat) (x:At),(L.take k)[i]? = some x→L[i]? = some x:=fun i x hx => by
  have hl:=AQ hx;rw [List.length_take] at hl;rw [List.getElem?_take_of_lt (by omega)] at hx;exact hx
 exact ⟨⟨fun i x hx => h.1.1 i x (hk i x hx),fun ad ha hn => h.1.2 ad ha (fun e => hn (by rw [e];simp))⟩,fun x hx => h.2 x (List.mem_of_mem_take hx)⟩
theorem Gg {G:List Nat} {E:Nat→Addr} (a:Option Addr) (c:Nat) (L:List At) (w:World) (hE:CK G E w) (i0:9 ∈ G) (i1:11 ∈ G) (i3:6 ∈ G) (i4:10 ∈ G) (h:Cc Any w a L) (hi:∀ x ∈ L,EG x.e) (hm:L.length≤100000) :
 Calls Tryz.prog 19 #[.slice a L.length c] w fun e w' => ∃ (ra:Option Addr) (rc:Nat),e = .returned (.slice ra (Cb L).length rc)∧Al 2 Ei w' ra (Cb L)∧Gr w w':=by
 have hf:=Kq a c L w hE i0 i1 i3 i4 h hi hm;replace hf:=zH hf;clear hE h hi;go_enter Tryz.func19,Tryz.ntmps19;go_wp2_with fail;refine hf.out.mono ?_;rintro e w1 ⟨T,ra,rc,rfl,hT,hO,hTA,g1⟩;clear hTA;have g2:Gr w1 (w1.alloc (.cells T.row 27)):=(Gr.refl _).alloc _;obtain ⟨a1,c1,e1,r1,-,-⟩:=Af Cf (As hO g2);injection e1 with p1 _ _
 subst p1;refine AZ ?_ r1 hO hT;clear r1 hO hT;intro r1 hO hT;go_wp2_with fail;go_ret;exact ⟨_,_,rfl,r1.out,g1.trans g2⟩
theorem Gi (q:At) (code:Int) (w:World) :
 Calls Tryz.prog 64 #[.agg #[.int .i64 1,.int .i64 q.e.cl,.int .i64 q.e.nu,.int .i64 q.e.kd,.int .i64 q.e.id,.int .i64 q.e.srv.k,.int .i64 q.e.srv.q,.int .i64 q.e.srv.t,.int .i64 q.e.po,.slice q.a q.e.tasks.length q.c,.int .i64 q.e.at_],.int .i64 code] w fun e w' => e = .returned (.agg #[.int .i64 q.e.cl,.int .i64 q.e.nu,.int .i64 code,.int .i64 0,.slice none 0 0])∧Gr w w':=by
 go_enter Tryz.func64,Tryz.ntmps64;go_wp2;refine bodyPost_ret (v:=.agg #[.int .i64 q.e.cl,.int .i64 q.e.nu,.int .i64 code,.int .i64 0,.slice none 0 0]) (by simp [results,Tryz.results64,go_sem]) rfl ⟨rfl,?_⟩;repeat (first | exact Gr.refl _ | apply Gr.alloc | apply Gr.drew | apply Gr.drewN | (refine Gr.setCell ?_ (by simp) _) | (refine Gr.trans ?_ (by assumption)))
theorem CC {w w1 wf:World} {rb:Nat} {v0 v1 v2 v3 v4:Value} (hb:Ag w1 rb #[.int .i64 0,.int .i64 0,.int .i64 0,.int .i64 0,.slice none 0 0] 56) (hw:wf = ((((w1.setCell ⟨rb,0,none⟩ v0).setCell ⟨rb,1,none⟩ v1).setCell ⟨rb,2,none⟩ v2).setCell ⟨rb,3,none⟩ v3).setCell ⟨rb,4,none⟩ v4) (g:Gr w w1) (h:w.heap.size≤rb):Ag wf rb #[v0,v1,v2,v3,v4] 56∧Gr w wf:=by
 have gx:Aw [rb] w1 wf:=by
  rw [hw];exact (((((Aw.refl _ _).set (.inl (by simp)) _).set (.inl (by simp)) _).set (.inl (by simp)) _).set (.inl (by simp)) _).set (.inl (by simp)) _
 refine ⟨?_,gx.all g (fun y hy => by simp at hy;omega)⟩;have h0:=hb.set 0 v0;have h1:=h0.set 1 v1;have h2:=h1.set 2 v2;have h3:=h2.set 3 v3;have h4:=h3.set 4 v4;rw [hw];simpa using h4
def NA (r:Option (Int × Int)) (q:At) (w:World) (e:Ending) (w':World):Prop:=Gr w w'∧match r with
 | some s => e = .returned (.tuple #[.agg #[.int .i64 q.e.cl,.int .i64 q.e.nu,.int .i64 s.1,.int .i64 s.2,.slice none 0 0],.bool true])
 | none => e = .returned (.tuple #[.agg #[.int .i64 0,.int .i64 0,.int .i64 0,.int .i64 0,.slice none 0 0],.bool false])
theorem LD {G:List Nat} {E:Nat→Addr} (a:Option Addr) (c:Nat) (L:List At) (q:At) (w:World) (hE:CK G E w) (i0:9 ∈ G) (i1:11 ∈ G) (i3:6 ∈ G) (i4:10 ∈ G) (i6:0 ∈ G) (h:Cc Any w a L) (hi:∀ x ∈ L,EG x.e) (hm:L.length≤100000) (hcap:L.length≤c) (hqb:EG q.e) :
 Calls Tryz.prog 21 #[.slice a L.length c,.agg #[.int .i64 1,.int .i64 q.e.cl,.int .i64 q.e.nu,.int .i64 q.e.kd,.int .i64 q.e.id,.int .i64 q.e.srv.k,.int .i64 q.e.srv.q,.int .i64 q.e.srv.t,.int .i64 q.e.po,.slice q.a q.e.tasks.length q.c,.int .i64 q.e.at_]] w (NA (GH (L.map (·.e)) q.e.cl q.e.nu) q w):=by
 obtain ⟨V,hV⟩:=zE (GH (L.map (·.e)) q.e.cl q.e.nu);rw [← hV];unfold GH at hV;obtain ⟨q1,q2,q3⟩:=hqb;obtain ⟨W,hW⟩:=zE ((w.alloc (.cells #[.int .i64 1,.int .i64 q.e.cl,.int .i64 q.e.nu,.int .i64 q.e.kd,.int .i64 q.e.id,.int .i64 q.e.srv.k,.int .i64 q.e.srv.q,.int .i64 q.e.srv.t,.int .i64 q.e.po,.slice q.a q.e.tasks.length q.c,.int .i64 q.e.at_] 47)).alloc (.cells #[.int .i64 0,.int .i64 0,.int .i64 0,.int .i64 0,.slice none 0 0] 56));have gW:Gr w W:=by rw [hW];exact ((Gr.refl w).alloc _).alloc _
 have hQW:Ag W w.heap.size #[.int .i64 1,.int .i64 q.e.cl,.int .i64 q.e.nu,.int .i64 q.e.kd,.int .i64 q.e.id,.int .i64 q.e.srv.k,.int .i64 q.e.srv.q,.int .i64 q.e.srv.t,.int .i64 q.e.po,.slice q.a q.e.tasks.length q.c,.int .i64 q.e.at_] 47:=by rw [hW];exact (Ag.new w _ _).alloc _
 have hRW:Ag W (w.heap.size + 1) #[.int .i64 0,.int .i64 0,.int .i64 0,.int .i64 0,.slice none 0 0] 56:=by
  rw [hW];exact Ag.n1
 have hpx:=J3 L q.e.cl q.e.nu;have hLW:=h.gr gW;have hEW:=hE.gr gW;obtain ⟨k0,k1,k2,k3,k4,k5,k6,k7,k8,k9,k10⟩:=hQW.c11;refine Dn ?_ hW hQW hRW h hi hLW;clear hW hQW hRW h hi hLW;intro hW hQW hRW h hi hLW;cases hpl:He (L.map (·.e)) q.e.cl q.e.nu with
 | none =>
  rw [hpl] at hV hpx;dsimp only at hV hpx;have hpn:=NW a c L q.e.cl q.e.nu W hEW i6 hLW.out (by unfold maxLen;omega) hpx;rw [OU] at hV;refine B0 ?_ hpn hpx hpl hV;clear hpn hpx hpl hV;intro hpn hpx hpl hV;go_enter Tryz.func21,Tryz.ntmps21;go_upto_region 1 with fail
  rw [← hW.out];go_wp2_with fail;refine hpn.out.mono ?_;rintro e w1 ⟨rfl,g1⟩;clear k0 k1 k2 k3 k4 k5 k6 k7 k8 k9 k10;have hQ1:=hQW.out.gr g1;have hR1:=hRW.out.gr g1;have gA1:=gW.trans g1;have hla:=N8 a c L w1.drew ((hLW.out.gr g1).gr ((Gr.refl w1).drew)) hi.out (by omega);obtain ⟨k0,k1,k2,k3,k4,k5,k6,k7,k8,k9,k10⟩:=hQ1.c11;refine AZ ?_ hQ1 hR1 hla;clear hQ1 hR1 hla;intro hQ1 hR1 hla;go_upto_region 12 with fail
  go_region_held3 (fun w' => w'.cell? ⟨w.heap.size,1,none⟩ = some (.int .i64 q.e.cl)∧w'.cell? ⟨w.heap.size,2,none⟩ = some (.int .i64 q.e.nu)) (simp (maxDischargeDepth:=8) [go_sem, *])
   (first
    | (go_at_call 67;(with_reducible refine hla.out.mono ?_);rintro e w3 ⟨D,mb,nn,rfl,hM,hD,g3⟩;have gq:Gr w1 w3:=((Gr.refl w1).drew).trans g3;obtain ⟨v,hlk,hvm⟩:=Kf hM hD q1;have hQ3:=hQ1.out.gr gq;have hR3:=hR1.out.gr gq;have gA3:=gA1.trans gq;obtain ⟨m0,m1,m2,m3,m4,m5,m6,m7,m8,m9,m10⟩:=hQ3.c11;refine B0 ?_ hQ3 hR3 hM hD;clear hQ3 hR3 hM hD;intro hQ3 hR3 hM hD)
    | fail)
  clear k0 k1 k2 k3 k4 k5 k6 k7 k8 k9 k10 m0 m1 m2 m3 m4 m5 m6 m7 m8 m9 m10;cases hmx:C3 (L.map (·.e)) q.e.cl with
  | none =>
   rw [hmx] at hlk;have hVn:V = none:=by rw [hV.out,hmx];rfl
   dsimp only [Option.isSome];clear hvm;obtain ⟨k0,k1,k2,k3,k4,k5,k6,k7,k8,k9,k10⟩:=hQ3.out.c11;obtain ⟨wf,hwf⟩:=zE ((((((w3.setCell ⟨w.heap.size + 1,0,none⟩ (.int .i64 0)).setCell ⟨w.heap.size + 1,1,none⟩ (.int .i64 0)).setCell ⟨w.heap.size + 1,2,none⟩ (.int .i64 0)).setCell ⟨w.heap.size + 1,3,none⟩ (.int .i64 0)).setCell ⟨w.heap.size + 1,4,none⟩ (.slice none 0 0)));obtain ⟨hRf,gWf⟩:=CC hR3.out hwf gA3 (by omega);obtain ⟨z0,z1,z2,z3,z4⟩:=hRf.c5;have rf:=fun i => hR3.out.free i
   obtain ⟨o0,o1,o2,o3,o4⟩:=hR3.out.c5;go_wp2_with fail;rw [← hwf];refine bodyPost_ret (v:=.tuple #[.agg #[.int .i64 0,.int .i64 0,.int .i64 0,.int .i64 0,.slice none 0 0],.bool false]) (by simp [results,Tryz.results21,go_sem,z0,z1,z2,z3,z4]) rfl ?_;rw [hVn];exact ⟨gWf,rfl⟩
  | some m =>
   have hvx:=hvm m hmx;clear hvm;dsimp only [Option.isSome];by_cases hlt:q.e.nu < m
   ·have tv:q.e.nu < v:=by rw [hvx];exact hlt
    have tvb:decide (q.e.nu < v) = true:=decide_eq_true tv;have hVn:V = some (102,0):=by rw [hV.out,hmx];show (if decide (q.e.nu < m) = true then _ else _) = _;rw [if_pos (decide_eq_true hlt)]
    replace hVn:=zH hVn;replace hvx:=zH hvx;obtain ⟨k0,k1,k2,k3,k4,k5,k6,k7,k8,k9,k10⟩:=hQ3.out.c11;go_wp2_with fail;refine (Gi q 102 _).mono ?_;rintro e w4 ⟨rfl,g4⟩;have hR4:=hR3.out.gr g4;have gA4:=gA3.trans g4;replace hR4:=zH hR4;clear k0 k1 k2 k3 k4 k5 k6 k7 k8 k9 k10;obtain ⟨wf,hwf⟩:=zE ((((((w4.setCell ⟨w.heap.size + 1,0,none⟩ (.int .i64 q.e.cl)).setCell ⟨w.heap.size + 1,1,none⟩ (.int .i64 q.e.nu)).setCell ⟨w.heap.size + 1,2,none⟩ (.int .i64 (102))).setCell ⟨w.heap.size + 1,3,none⟩ (.int .i64 (0))).setCell ⟨w.heap.size + 1,4,none⟩ (.slice none 0 0)));obtain ⟨hRf,gWf⟩:=CC hR4.out hwf gA4 (by omega);obtain ⟨z0,z1,z2,z3,z4⟩:=hRf.c5;have rf:=fun i => hR4.out.free i
    obtain ⟨o0,o1,o2,o3,o4⟩:=hR4.out.c5;go_wp2_with fail;rw [← hwf];refine bodyPost_ret (v:=.tuple #[.agg #[.int .i64 q.e.cl,.int .i64 q.e.nu,.int .i64 (102),.int .i64 (0),.slice none 0 0],.bool true]) (by simp [results,Tryz.results21,go_sem,z0,z1,z2,z3,z4]) rfl ?_;rw [hVn.out];exact ⟨gWf,rfl⟩
   ·have tv:¬ q.e.nu < v:=by rw [hvx];exact hlt
    have tvb:decide (q.e.nu < v) = false:=decide_eq_false tv;have hVn:V = none:=by rw [hV.out,hmx];show (if decide (q.e.nu < m) = true then _ else _) = _;rw [if_neg (by rw [decide_eq_false hlt];decide)]
    replace hVn:=zH hVn;replace hvx:=zH hvx;obtain ⟨k0,k1,k2,k3,k4,k5,k6,k7,k8,k9,k10⟩:=hQ3.out.c11;obtain ⟨wf,hwf⟩:=zE ((((((w3.setCell ⟨w.heap.size + 1,0,none⟩ (.int .i64 0)).setCell ⟨w.heap.size + 1,1,none⟩ (.int .i64 0)).setCell ⟨w.heap.size + 1,2,none⟩ (.int .i64 0)).setCell ⟨w.heap.size + 1,3,none⟩ (.int .i64 0)).setCell ⟨w.heap.size + 1,4,none⟩ (.slice none 0 0)));obtain ⟨hRf,gWf⟩:=CC hR3.out hwf gA3 (by omega);obtain ⟨z0,z1,z2,z3,z4⟩:=hRf.c5;have rf:=fun i => hR3.out.free i
    obtain ⟨o0,o1,o2,o3,o4⟩:=hR3.out.c5;go_wp2_with fail;rw [← hwf];refine bodyPost_ret (v:=.tuple #[.agg #[.int .i64 0,.int .i64 0,.int .i64 0,.int .i64 0,.slice none 0 0],.bool false]) (by simp [results,Tryz.results21,go_sem,z0,z1,z2,z3,z4]) rfl ?_;rw [hVn.out];exact ⟨gWf,rfl⟩
 | some k =>
  rw [hpl] at hV hpx;dsimp only at hV hpx;obtain ⟨e0,he0,-,-,-⟩:=J4 hpl;have hkl:k < L.length:=by have:=AQ he0;rw [List.length_map] at this;exact this
  clear he0;have hrt:(Cb L).take (k + 1) = Cb (L.take (k + 1)):=by
   have h1:=Mv ⟨[],[],0,0⟩ (((L.take (k + 1)).map (·.e)).map Eh) (((L.drop (k + 1)).map (·.e)).map Eh);rw [← List.map_append,← List.map_append,List.take_append_drop,List.length_map,List.length_map,List.length_take,Nat.min_eq_left (by omega)] at h1;exact h1
  have hrl:(Cb (L.take (k + 1))).length = k + 1:=by rw [Ev,List.length_take];omega
  obtain ⟨r,hr⟩:=Ac (Cb (L.take (k + 1))) k (by omega);have hVr:V = some r:=by
   rw [hV];have h1:(Cb L)[k]? = some r:=by rw [← hr,← hrt,List.getElem?_take_of_lt (by omega)]
   unfold Cb at h1;rw [h1];rfl
  have hpy:=MH a c L q.e.cl q.e.nu k W hLW.out (by unfold maxLen;omega) hpx hkl;obtain ⟨x0,hx0⟩:=Ac L k hkl;obtain ⟨b,off,hag,_,_,_⟩:=h.out.get hx0;subst hag;have htl:(L.take (k + 1)).length = k + 1:=by rw [List.length_take];omega
  have hre:=fun (w':World) (g:Gr W w') => Gg (some ⟨b,off,none⟩) c (L.take (k + 1)) w' (hEW.gr g) i0 i1 i3 i4 ((hLW.out.gr g).take _) (fun x hx => hi.out x (List.mem_of_mem_take hx)) (by omega)
  rw [htl,hrl] at hre;refine Br ?_ hpy hpx hpl hV hrt hrl hr hVr;clear hpy hpx hpl hV hrt hrl hr hVr;intro hpy hpx hpl hV hrt hrl hr hVr;refine AZ ?_ hx0 htl hre;clear hx0 htl hre;intro hx0 htl hre;have w1e:IntKind.i64.wrap ((k:Int) + 1 - 1) = k:=by rw [IntKind.wrap_i64] <;> omega
  have t1:(0:Int)≤(k:Int) + 1:=by omega
  have t2:(k:Int) + 1≤(c:Int):=by omega
  have t3:((k:Int) + 1).toNat = k + 1:=by omega
  have t4:(k:Int) < (k:Int) + 1:=by omega
  go_enter Tryz.func21,Tryz.ntmps21;go_upto_region 1 with fail
  rw [← hW.out];go_wp2_with fail;refine hpy.out.mono ?_;rintro e w1 ⟨rfl,g1⟩;clear k0 k1 k2 k3 k4 k5 k6 k7 k8 k9 k10;go_wp2_with fail;refine (hre.out w1 g1).mono ?_;rintro e w2 ⟨ra,rc,rfl,hrs,g2⟩;obtain ⟨b2,off2,hag2,hb2,hrc⟩:=hrs k r hr.out;subst hag2;have r0:=hrc 0 _ rfl;have r1:=hrc 1 _ rfl;rw [Nat.add_zero] at r0;clear hrc hrs;obtain ⟨sb,hsb⟩:=zE w2.heap.size;obtain ⟨w3,hw3⟩:=zE (w2.alloc (.cells #[.int .i64 r.1,.int .i64 r.2] 34));have g3:Gr w2 w3:=by rw [hw3];exact (Gr.refl _).alloc _
  have hS3:Ag w3 sb #[.int .i64 r.1,.int .i64 r.2] 34:=by rw [hw3,hsb];exact Ag.new _ _ _
  have gq3:=(g1.trans g2).trans g3;have hQ3:=hQW.out.gr gq3;obtain ⟨s0,s1⟩:=hS3.c2;obtain ⟨k0,k1,k2,k3,k4,k5,k6,k7,k8,k9,k10⟩:=hQ3.c11;refine B0 ?_ hsb hw3 hS3 hQ3;clear hsb hw3 hS3 hQ3;intro hsb hw3 hS3 hQ3;go_upto_region 17 with fail
  rw [← hsb.out,← hw3.out];clear r0 r1;go_wp2_with fail;refine (Gi q r.1 _).mono ?_;rintro e w4 ⟨rfl,g4⟩;clear s0 s1 k0 k1 k2 k3 k4 k5 k6 k7 k8 k9 k10;obtain ⟨ob,hob⟩:=zE w4.heap.size;obtain ⟨w5,hw5⟩:=zE (w4.alloc (.cells #[.int .i64 q.e.cl,.int .i64 q.e.nu,.int .i64 (r.1),.int .i64 (0),.slice none 0 0] 56));have g5:Gr w4 w5:=by rw [hw5];exact (Gr.refl _).alloc _
  have hO5:Ag w5 ob #[.int .i64 q.e.cl,.int .i64 q.e.nu,.int .i64 (r.1),.int .i64 (0),.slice none 0 0] 56:=by rw [hw5,hob];exact Ag.new _ _ _
  have g45:=g4.trans g5;have hS5:=hS3.out.gr g45;have gq5:=gq3.trans g45;have hR5:=hRW.out.gr gq5;have zr4:=(hRW.out.gr (gq3.trans g4)).lt;have nob:ob ≠ w.heap.size + 1:=by omega
  obtain ⟨s0,s1⟩:=hS5.c2;have of_:=fun i => hO5.free i
  obtain ⟨o0,o1,o2,o3,o4⟩:=hO5.c5;refine Dn ?_ hob hw5 hS5 hO5 hR5 zr4;clear hob hw5 hS5 hO5 hR5 zr4;intro hob hw5 hS5 hO5 hR5 zr4;go_upto_region 18 with fail
  rw [← hob.out,← hw5.out];go_upto_region 19 with fail
  obtain ⟨w6,hw6⟩:=zE (w5.setCell ⟨ob,3,none⟩ (.int .i64 r.2));rw [← hw6];clear s0 s1 of_ o0 o1 o2 o3 o4;have hO6:Ag w6 ob #[.int .i64 q.e.cl,.int .i64 q.e.nu,.int .i64 (r.1),.int .i64 (r.2),.slice none 0 0] 56:=by rw [hw6];exact hO5.out.set 3 (.int .i64 r.2)
  have hR6:Ag w6 (w.heap.size + 1) #[.int .i64 0,.int .i64 0,.int .i64 0,.int .i64 0,.slice none 0 0] 56:=by rw [hw6];exact hR5.out.other (by show w.heap.size + 1 ≠ ob;omega) _
  have gx6:Aw [ob] w5 w6:=by rw [hw6];exact (Aw.refl _ _).set (.inl (by simp)) _
  have gA6:Gr w w6:=gx6.all (gW.trans gq5) (fun y hy => by rw [List.mem_singleton.1 hy];have h1:=hob.out;have h2:=zr4.out;omega);obtain ⟨p0,p1,p2,p3,p4⟩:=hO6.c5;refine B0 ?_ hw6 hO6 hR6 gx6;clear hw6 hO6 hR6 gx6;intro hw6 hO6 hR6 gx6;obtain ⟨wf,hwf⟩:=zE ((((((w6.setCell ⟨w.heap.size + 1,0,none⟩ (.int .i64 q.e.cl)).setCell ⟨w.heap.size + 1,1,none⟩ (.int .i64 q.e.nu)).setCell ⟨w.heap.size + 1,2,none⟩ (.int .i64 (r.1))).setCell ⟨w.heap.size + 1,3,none⟩ (.int .i64 (r.2))).setCell ⟨w.heap.size + 1,4,none⟩ (.slice none 0 0)));obtain ⟨hRf,gWf⟩:=CC hR6.out hwf gA6 (by omega);obtain ⟨z0,z1,z2,z3,z4⟩:=hRf.c5;have rf:=fun i => hR6.out.free i
  obtain ⟨o0,o1,o2,o3,o4⟩:=hR6.out.c5;go_wp2_with fail;rw [← hwf];refine bodyPost_ret (v:=.tuple #[.agg #[.int .i64 q.e.cl,.int .i64 q.e.nu,.int .i64 (r.1),.int .i64 (r.2),.slice none 0 0],.bool true]) (by simp [results,Tryz.results21,go_sem,z0,z1,z2,z3,z4]) rfl ?_;rw [hVr.out];exact ⟨gWf,rfl⟩
end Go.Proofs.YtdfelohjdkcpkaaGreatDoor
