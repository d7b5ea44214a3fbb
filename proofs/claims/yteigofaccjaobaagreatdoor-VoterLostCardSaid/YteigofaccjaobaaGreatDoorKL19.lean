/- voter.Open of a disk that a voter wrote; of a disk that wal.Open refuses. -/
import Derived.Test.YteigofaccjaobaaGreatDoorKL18
namespace Go.Proofs.YteigofaccjaobaaGreatDoor
open Go.RowKit
inductive RecS:VotS→List UInt8→VotS→Prop
 | p (s:VotS) (r m:Nat):r≤1099511627776→m≤1099511627776→RecS s (vrB [1,r,m] none) {s with pr:=r,pn:=m}
 | a (s:VotS) (r m k:Nat) (t:List Ent):r≤1099511627776→m≤1099511627776→k≤s.l.length→ledF t = true→ledF (s.l.take k ++ t) = true→RecS s (vrB [2,r,m,k] (some t)) {s with pr:=r,pn:=m,ar:=r,an:=m,l:=s.l.take k ++ t}
 | c (s:VotS) (n:Nat):n≤1099511627776→RecS s (vrB [3,n] none) {s with cl:=n}
theorem RecS.ok {s s':VotS} {b:List UInt8} (h:RecS s b s') (hs:s.ok):s'.ok:=by
 obtain ⟨⟨h1,h2,h3,h4,h5⟩,h6⟩:=hs;cases h with
 | p r m hr hm => exact ⟨⟨hr,hm,h3,h4,h5⟩,h6⟩
 | a r m k t hr hm hk ht hf => exact ⟨⟨hr,hm,hr,hm,h5⟩,hf⟩
 | c n hn => exact ⟨⟨h1,h2,h3,h4,hn⟩,h6⟩
def Replay:VotS→List (List UInt8)→VotS→Prop
 | s,[],s' => s = s'
 | s,b :: l,s' => ∃ s1,RecS s b s1∧Replay s1 l s'
theorem done_rec {G:List Nat} {E:Nat→Addr} {W:World} (w:World) (hE:EAt G E W) (gW:Gr W w) (i0:4 ∈ G) (a:Option Addr) (c:Nat) {s s':VotS} {b:List UInt8} (la:Option Addr) (lc:Nat) (L:List EntM) (hL:Ents L = s.l) (hM:LedM Any w la L) (hlc:s.l.length≤lc) (hln:la = none→lc = 0) (hs:s.ok) (hR:RecS s b s') (hS:BytesAt w a b) (hcn:a = none→c = 0) :
 Calls Tryz.prog 45 #[.agg (stC s la s.l.length lc),.slice a b.length c] w (DonP s' ⟨s,la,lc,L,0⟩ w):=by
 cases hR with
 | p r m hr hm =>
  refine (done_p w a c s la s.l.length lc r m hr hm hS hcn).mono ?_;rintro e w' ⟨rfl,g⟩;exact ⟨la,lc,L,rfl,hL,.inr ⟨rfl,rfl⟩,hln,hlc,g⟩
 | a r m k t hr hm hk ht hf =>
  refine (done_a w hE gW i0 a c s la lc L hL hM hlc (ledF_iff.1 hs.2).1 r m k t hr hm hk ht hS hcn).mono ?_;rintro e w' ⟨a',c',L',rfl,h1,h2,h3,h4,-,g⟩;exact ⟨a',c',L',rfl,h1,.inl h2,h3,h4,g⟩
 | c n hn =>
  refine (done_c w a c s la s.l.length lc n hn hS hcn).mono ?_;rintro e w' ⟨rfl,g⟩;exact ⟨la,lc,L,rfl,hL,.inr ⟨rfl,rfl⟩,hln,hlc,g⟩
set_option maxRecDepth 100000 in
set_option maxHeartbeats 3200000 in
theorem vopen_bad {E:Nat→Addr} (w:World) (nu:Nat) (hnu:nu < 7) {db:Nat} {g:Nat} (ho:Calls Tryz.prog 43 #[.pointer (some ⟨db,0,none⟩)] w fun q w' => q = .returned (.tuple #[.pointer none,.slice none 0 0,.slice none 0 0,errAt E g])∧Gr w w') :
 Calls Tryz.prog 20 #[.pointer (some ⟨db,0,none⟩),.int .i64 nu] w fun q w' => q = .returned (.tuple #[.pointer none,errAt E g])∧Gr w w':=by
 have hg:=goodn_any nu w;rw [decide_eq_true (by omega)] at hg;replace hg:=Lib.hid hg;replace ho:=Lib.hid ho;go_enter Tryz.func20,Tryz.ntmps20;go_wp2_with fail;refine hg.out.mono ?_;rintro q w0 ⟨rfl,hw0⟩;rw [← hw0];clear hw0;go_wp2_with fail;refine ho.out.mono ?_;rintro q w1 ⟨rfl,g1⟩;go_wp2_with fail;refine bodyPost_ret (results_tmp2 rfl _ _ _) rfl ?_;exact ⟨rfl,g1⟩
theorem it_get {w:World} {a:Option Addr} {l:List Itm} (h:RecsAt 1 itC w a l) {k:Nat} {v:Itm} (hv:l[k]? = some v):∃ b off,a = some ⟨b,off,none⟩∧b < w.heap.size∧w.cell? ⟨b,off + k,none⟩ = some (.slice v.a v.b.length v.c):=by
 obtain ⟨b,off,h1,hb,h2⟩:=h k v hv;refine ⟨b,off,h1,hb,?_⟩;have:=h2 0 (.slice v.a v.b.length v.c) rfl
 rwa [Nat.mul_one,Nat.add_zero] at this
set_option maxRecDepth 100000 in
set_option maxHeartbeats 6400000 in
theorem vopen_of {G:List Nat} {E:Nat→Addr} {W:World} (w:World) (hE:EAt G E W) (gW:Gr W w) (i0:4 ∈ G) (nu:Nat) (hnu:nu < 7) {db:Nat} {M:DskM} (hMW:∀ b ∈ M.own db,W.heap.size≤b)
 (ho:Calls Tryz.prog 43 #[.pointer (some ⟨db,0,none⟩)] w (OpnP W E db M w)) {s0 sF:VotS} {recs:List (List UInt8)} (hs0:s0.ok) (hrs:(newR M.d).map (·.d) = snapB s0 :: recs) (hrp:Replay s0 recs sF) (hmx:recs.length≤1000) :
 Calls Tryz.prog 20 #[.pointer (some ⟨db,0,none⟩),.int .i64 nu] w (VopP W db nu sF (claimD M.d (fmtT M.d + 1)) (opnL M.d) M w):=by
 obtain ⟨P,hP⟩:∃ P,P = VopP W db nu sF (claimD M.d (fmtT M.d + 1)) (opnL M.d) M w:=⟨_,rfl⟩
 rw [← hP];replace hP:=Lib.hid hP;have hg:=goodn_any nu w;rw [decide_eq_true (by omega)] at hg;replace hg:=Lib.hid hg;replace ho:=Lib.hid ho;replace hE:=Lib.hid hE;replace hrs:=Lib.hid hrs;replace hrp:=Lib.hid hrp;replace hs0:=Lib.hid hs0;go_enter Tryz.func20,Tryz.ntmps20;go_wp2_with fail;refine hg.out.mono ?_;rintro q w0 ⟨rfl,hw0⟩;rw [← hw0];clear hw0;go_wp2_with fail;refine ho.out.mono ?_;rintro q w3 hq;obtain ⟨lb,M3,L3,it,I,pb,po,rfl,hd3,hl3,hm3,hD3,hL3,ho2,ho3,hIb,-,hIx,hIr,hpb,-⟩:=hq.x;have gf:GrX (M.own db) w w3:=hq.g;have gW3:Gr W w3:=GrX.all gW gf hMW;have hown:∀ b ∈ M3.own db ++ L3.own lb,b < w3.heap.size:=fun b hb => by
  rcases List.mem_append.1 hb with hb | hb
  ·exact hD3.lt b hb
  ·exact hL3.lt b hb
 have hW:=gW.size;have z3:=gf.size;rw [hrs.out,List.map_cons] at hIb;injection hIb with hb0 hbI
 have hix:=hIx it List.mem_cons_self;rw [hb0] at hix;rw [hb0];have hin:I.length = recs.length:=by rw [← hbI,List.length_map]
 have hld:=load_yes w3 hE.out gW3 i0 it.a it.c s0 hs0.out hix.2.1 hix.2.2.1;obtain ⟨n,hn⟩:∃ n,n = I.length:=⟨_,rfl⟩
 obtain ⟨sl,hsl⟩:∃ sl,sl = (snapB s0).length:=⟨_,rfl⟩
 obtain ⟨ll,hll⟩:∃ ll,ll = s0.l.length:=⟨_,rfl⟩
 rw [← hn,← hsl];rw [← hsl,← hll] at hld;have hnm:n≤1000:=by omega
 replace hq:=Lib.hid hq;replace hd3:=Lib.hid hd3;replace hl3:=Lib.hid hl3;replace hm3:=Lib.hid hm3;replace hD3:=Lib.hid hD3;replace hL3:=Lib.hid hL3;replace ho2:=Lib.hid ho2;replace ho3:=Lib.hid ho3;replace hown:=Lib.hid hown;replace hIx:=Lib.hid hIx;replace hIr:=Lib.hid hIr;replace hix:=Lib.hid hix;replace hbI:=Lib.hid hbI;replace hb0:=Lib.hid hb0;replace hin:=Lib.hid hin;replace hld:=Lib.hid hld;replace hn:=Lib.hid hn;replace hsl:=Lib.hid hsl;replace hll:=Lib.hid hll;go_wp2_with fail;refine hld.out.mono ?_;rintro q w4 ⟨a4,c4,L4,rfl,hE4,hM4,hn4,hc4,-,g4⟩;obtain ⟨sb,hsb⟩:∃ sb,sb = w4.heap.size:=⟨_,rfl⟩
 obtain ⟨w5,hw5⟩:∃ w5,w5 = w4.alloc (.cells #[.int .i64 s0.pr,.int .i64 s0.pn,.int .i64 s0.ar,.int .i64 s0.an,.slice a4 ll c4,.int .i64 s0.cl] 94):=⟨_,rfl⟩
 have g45:Gr w4 w5:=by rw [hw5];exact (Gr.refl w4).alloc _
 have hB1:Blk w5 sb (stC s0 a4 s0.l.length c4) 94:=by rw [hw5,hsb,← hll.out];exact Blk.new _ _ _
 have zs4:=g4.size;have hM5:LedM (fun x => w3.heap.size≤x∧x ≠ sb) w5 a4 L4:=(hM4.mono (K':=fun x => w3.heap.size≤x∧x ≠ sb) (fun x hx hk => ⟨hk,by omega⟩)).gr g45;have g35:Gr w3 w5:=g4.trans g45;have zsb:w3.heap.size≤sb:=by omega
 replace hE4:=Lib.hid hE4;replace hM5:=Lib.hid hM5;replace hB1:=Lib.hid hB1;replace hw5:=Lib.hid hw5;replace hsb:=Lib.hid hsb;clear hM4;go_upto_region 7 with fail
 rw [← hw5.out,← hsb.out];go_wp2_with fail;go_loopw [35,11] (fun iv okv wr => ∃ (k:Nat) (s:VotS) (a:Option Addr) (c:Nat) (L:List EntM),k≤n∧iv = .int .i64 k∧okv = .bool true∧Hid (Blk wr sb (stC s a s.l.length c) 94∧Ents L = s.l∧LedM (fun x => w3.heap.size≤x∧x ≠ sb) wr a L∧(a = none→c = 0)∧s.l.length≤c∧s.ok∧Replay s (recs.drop k) sF)∧Gr w3 wr) (fun iv _ _ => n - (intOf iv).toNat);case atStart => exact ⟨0,s0,a4,c4,L4,Nat.zero_le _,rfl,rfl,Lib.hid ⟨hB1.out,hE4.out,hM5.out,hn4,by rw [← hll.out];exact hc4,hs0.out,by rw [List.drop_zero];exact hrp.out⟩,g35⟩
 case round =>
  obtain ⟨k,s,a,c,L,hk,rfl,rfl,hI,g3r⟩:=hrel;obtain ⟨hB,hEs,hM,hac,hlc,hsok,hrep⟩:=hI.out;clear hI;have hnI:n = I.length:=hn.out;by_cases hlt:k < n
  ·have hltd:decide ((k:Int) < n) = true:=decide_eq_true (by omega);have hlt2:(k:Int) < n:=by omega
   obtain ⟨x,hx⟩:=get_some I k (by rw [← hnI];exact hlt);obtain ⟨ib,io,hpe,hib,hcell⟩:=it_get (hIr.out.gr' g3r) hx;injection hpe with hpe
   injection hpe with e1 e2
   subst e1 e2;have hxo:=hIx.out x (List.mem_cons_of_mem _ (get_mem hx));have hrk:recs[k]? = some x.b:=by rw [← hbI.out,List.getElem?_map,hx];rfl
   obtain ⟨hk2,hk3⟩:=List.getElem?_eq_some_iff.1 hrk;rw [List.drop_eq_getElem_cons hk2,hk3] at hrep;obtain ⟨s1,hR1,hrep1⟩:=hrep;have hdn:=done_rec wr hE.out (gW3.trans g3r) i0 x.a x.c a c L hEs (hM.mono (fun _ _ _ => trivial)) hlc hac hsok hR1 (hxo.2.1.gr g3r) hxo.2.2.1;have hok1:=hR1.ok hsok;have d0:=hB.cell (i:=0) (v:=.int .i64 s.pr) rfl;have d1:=hB.cell (i:=1) (v:=.int .i64 s.pn) rfl;have d2:=hB.cell (i:=2) (v:=.int .i64 s.ar) rfl;have d3:=hB.cell (i:=3) (v:=.int .i64 s.an) rfl;have d4:=hB.cell (i:=4) (v:=.slice a s.l.length c) rfl;have d5:=hB.cell (i:=5) (v:=.int .i64 s.cl) rfl;have dz:=hB.lt;obtain ⟨sn,hsn⟩:∃ sn,sn = s.l.length:=⟨_,rfl⟩
   obtain ⟨xl,hxl⟩:∃ xl,xl = x.b.length:=⟨_,rfl⟩
   rw [← hsn,← hxl] at hdn;rw [← hsn] at d4;rw [← hxl] at hcell;obtain ⟨wo,hwo⟩:∃ wo:World,wo = wr:=⟨wr,rfl⟩
   replace hdn:Calls Tryz.prog 45 #[.agg #[.int .i64 s.pr,.int .i64 s.pn,.int .i64 s.ar,.int .i64 s.an,.slice a sn c,.int .i64 s.cl],.slice x.a xl x.c] wr (DonP s1 ⟨s,a,c,L,0⟩ wr):=hdn;replace hdn:=Lib.hid hdn;replace hB:=Lib.hid hB;replace hEs:=Lib.hid hEs;replace hM:=Lib.hid hM;replace hsok:=Lib.hid hsok;replace hR1:=Lib.hid hR1;replace hrep1:=Lib.hid hrep1;replace hok1:=Lib.hid hok1;replace hxo:=Lib.hid hxo;replace hx:=Lib.hid hx;replace hrk:=Lib.hid hrk;replace hsn:=Lib.hid hsn;replace hxl:=Lib.hid hxl;replace hnI:=Lib.hid hnI;replace hlc:=Lib.hid hlc;clear hk3 hk2;go_wp2_with fail;refine hdn.out.mono ?_;rintro q w6 ⟨a6,c6,L6,rfl,hE6,hM6,hac6,hlc6,g6⟩;have hB6:=hB.out.gr g6;have u0:=hB6.free 0;have u1:=hB6.free 1;have u2:=hB6.free 2;have u3:=hB6.free 3;have u4:=hB6.free 4;have u5:=hB6.free 5;have zb6:=hB6.lt;have v0:=hB6.cell (i:=0) (v:=.int .i64 s.pr) rfl;have v1:=hB6.cell (i:=1) (v:=.int .i64 s.pn) rfl;have v2:=hB6.cell (i:=2) (v:=.int .i64 s.ar) rfl;have v3:=hB6.cell (i:=3) (v:=.int .i64 s.an) rfl;have v4:=hB6.cell (i:=4) (v:=.slice a s.l.length c) rfl;have v5:=hB6.cell (i:=5) (v:=.int .i64 s.cl) rfl;obtain ⟨n6,hn6⟩:∃ n6,n6 = s1.l.length:=⟨_,rfl⟩
   rw [← hn6] at hlc6;have hB7:=((((((hB6.set 0 (.int .i64 s1.pr)).set 1 (.int .i64 s1.pn)).set 2 (.int .i64 s1.ar)).set 3 (.int .i64 s1.an)).set 4 (.slice a6 n6 c6)).set 5 (.int .i64 s1.cl))
   have gs:GrX [sb] w6 ((((((w6.setCell ⟨sb,0,none⟩ (.int .i64 s1.pr)).setCell ⟨sb,1,none⟩ (.int .i64 s1.pn)).setCell ⟨sb,2,none⟩ (.int .i64 s1.ar)).setCell ⟨sb,3,none⟩ (.int .i64 s1.an)).setCell ⟨sb,4,none⟩ (.slice a6 n6 c6)).setCell ⟨sb,5,none⟩ (.int .i64 s1.cl)):=(((((((GrX.refl [sb] w6).set (p:=⟨sb,0,none⟩) (.inl (by simp)) _).set (p:=⟨sb,1,none⟩) (.inl (by simp)) _).set (p:=⟨sb,2,none⟩) (.inl (by simp)) _).set (p:=⟨sb,3,none⟩) (.inl (by simp)) _).set (p:=⟨sb,4,none⟩) (.inl (by simp)) _).set (p:=⟨sb,5,none⟩) (.inl (by simp)) _)
   obtain ⟨w7,hw7⟩:∃ w7,w7 = (((((w6.setCell ⟨sb,0,none⟩ (.int .i64 s1.pr)).setCell ⟨sb,1,none⟩ (.int .i64 s1.pn)).setCell ⟨sb,2,none⟩ (.int .i64 s1.ar)).setCell ⟨sb,3,none⟩ (.int .i64 s1.an)).setCell ⟨sb,4,none⟩ (.slice a6 n6 c6)).setCell ⟨sb,5,none⟩ (.int .i64 s1.cl):=⟨_,rfl⟩
   rw [← hw7] at hB7 gs;have zwr:=g3r.size;have hM7:LedM (fun x => w3.heap.size≤x∧x ≠ sb) w7 a6 L6:=by
    rcases hM6 with hM6 | ⟨e1,e2⟩
    ·refine LedM.grx (hM6.mono fun x _ hx => ?_) gs (fun y hy hk => hk.2 (List.mem_singleton.1 hy));exact ⟨by omega,by omega⟩
    ·rw [e1,e2];exact (hM.out.gr g6).grx gs (fun y hy hk => hk.2 (List.mem_singleton.1 hy))
   have g37:Gr w3 w7:=GrX.all (g3r.trans g6) gs (fun y hy => by rw [List.mem_singleton.1 hy];exact zsb);have hfin:Blk w7 sb (stC s1 a6 s1.l.length c6) 94∧Ents L6 = s1.l∧LedM (fun x => w3.heap.size≤x∧x ≠ sb) w7 a6 L6∧(a6 = none→c6 = 0)∧s1.l.length≤c6∧s1.ok∧Replay s1 (recs.drop (k + 1)) sF:=⟨by rw [← hn6];exact hB7,hE6,hM7,hac6,by rw [← hn6];exact hlc6,hok1.out,hrep1.out⟩
   replace hfin:=Lib.hid hfin;replace hB6:=Lib.hid hB6;replace hE6:=Lib.hid hE6;replace hM6:=Lib.hid hM6;replace hM7:=Lib.hid hM7;replace hw7:=Lib.hid hw7;replace hB7:=Lib.hid hB7;replace gs:=Lib.hid gs;clear d0 d1 d2 d3 d4 d5 dz;rw [show (Value.agg (stC s1 a6 s1.l.length c6)) = .agg #[.int .i64 s1.pr,.int .i64 s1.pn,.int .i64 s1.ar,.int .i64 s1.an,.slice a6 n6 c6,.int .i64 s1.cl] from by rw [hn6]];replace hn6:=Lib.hid hn6;go_wp2_with fail;rw [← hw7.out];go_roundw;case rel => exact ⟨k + 1,s1,a6,c6,L6,by omega,by go_num,rfl,hfin,g37⟩
   case measure => simp [intOf];omega
  ·obtain rfl:k = n:=by omega
   have hltd:decide ((k:Int) < k) = false:=decide_eq_false (by omega);have hrd:recs.drop k = []:=List.drop_eq_nil_of_le (by have:=hin.out;have:=hn.out;omega);rw [hrd] at hrep;have hse:s = sF:=hrep;rw [hse] at hB hEs hlc hsok;have d0:=hB.cell (i:=0) (v:=.int .i64 sF.pr) rfl;have d1:=hB.cell (i:=1) (v:=.int .i64 sF.pn) rfl;have d2:=hB.cell (i:=2) (v:=.int .i64 sF.ar) rfl;have d3:=hB.cell (i:=3) (v:=.int .i64 sF.an) rfl;have d4:=hB.cell (i:=4) (v:=.slice a sF.l.length c) rfl;have d5:=hB.cell (i:=5) (v:=.int .i64 sF.cl) rfl;have dz:=hB.lt;have gWr:=gW3.trans g3r;have g3w:=g3r.size;have hfin:∀ wf,wf = wr.alloc (.cells (voC sF a sF.l.length c nu lb) 100)→VopP W db nu sF (claimD M.d (fmtT M.d + 1)) (opnL M.d) M w (.returned (.tuple #[.pointer (some ⟨wr.heap.size,0,none⟩),.nilIface])) wf:=fun wf hwf => by
    have gf':Gr wr wf:=by rw [hwf];exact (Gr.refl wr).alloc _
    have g3f:=g3r.trans gf';have q1:∀ b ∈ M3.own db,W.heap.size≤b:=fun b hb => by
     rcases ho2.out b hb with h | h
     ·exact hMW b h
     ·omega
    have q2:wr.heap.size ∉ M3.own db ++ L3.own lb:=fun hm => by have:=hown.out _ hm;omega
    have q3:LedM (fun x => W.heap.size≤x∧x ∉ wr.heap.size :: (M3.own db ++ L3.own lb)) wr a L:=hM.mono (fun x hx hk => ⟨by have:=gW3.size;omega,fun hm => by
     rcases List.mem_cons.1 hm with h | h
     ·omega
     ·have:=hown.out x h;omega⟩)
    exact ⟨⟨wr.heap.size,lb,⟨sF,a,c,L,nu⟩,M3,L3,rfl,hd3.out,hl3.out,hm3.out,⟨hD3.out.gr g3f,q1,hL3.out.gr g3f,⟨by rw [hwf];exact Blk.new wr _ _,hEs,q3.gr gf',hac,hlc,hsok,gWr.size,q2⟩,gWr.trans gf'⟩,rfl,rfl,ho2.out,ho3.out,by omega⟩,gf.gr g3f⟩
   obtain ⟨sn,hsn⟩:∃ sn,sn = sF.l.length:=⟨_,rfl⟩
   rw [← hsn] at d4 hfin;replace hfin:=Lib.hid hfin;replace hB:=Lib.hid hB;replace hEs:=Lib.hid hEs;replace hM:=Lib.hid hM;replace hsok:=Lib.hid hsok;replace hlc:=Lib.hid hlc;replace hsn:=Lib.hid hsn;replace hnI:=Lib.hid hnI;replace hrd:=Lib.hid hrd;clear hrep hse;go_wp2_with fail;rw [hP.out];exact hfin.out _ rfl
theorem al_app {d:DskV} {v:LogV} {b:List UInt8} {u:Nat} (sb:List UInt8) (hl:d.lost = false) (hb:b.length≤40) (hu:usedR v.rs = u) (hn:halfD d = 19) (hg:v.g < 128) (he:v.e < 128) (hi:v.rs.length < 128) (hu2:u≤18) :
 aocE d v sb b = 0∧wrtD d v sb b = (putD d (firstD d v.s + u) (frR ⟨v.g,v.e,v.rs.length,b⟩)).flush∧aocL d v sb b = ⟨v.s,v.g,v.e,v.rs ++ [⟨v.g,v.e,v.rs.length,b⟩]⟩:=by
 have h0:appE d v b = 0:=by
  unfold appE;rw [hl,if_neg (by decide),if_neg (by omega),if_pos];unfold fitsB;refine decide_eq_true ⟨?_,?_⟩
  ·unfold appR;rw [al_cost hg he hi hb,hu,hn];omega
  ·unfold appR;dsimp only;omega
 have h1:aocE d v sb b = 0:=by unfold aocE;rw [if_neg (by rw [h0];decide)];exact h0
 refine ⟨h1,?_,?_⟩
 ·unfold wrtD aocD;rw [if_pos h1,if_neg (by rw [h0];decide)];unfold appD syncD;rw [if_pos h0,putD_lost,hl,if_neg (by decide),hu];rfl
 ·unfold aocL;rw [if_neg (by rw [h0];decide)];unfold appL;rw [if_pos h0];rfl
abbrev alS1:VotS:=⟨1,0,0,0,[],0⟩
abbrev alS2:VotS:=⟨1,0,1,0,[ale],0⟩
abbrev alL1:LogV:=⟨false,1,1,[alR0]⟩
abbrev alL2:LogV:=⟨false,1,1,[alR0,alR1]⟩
abbrev alL3:LogV:=⟨false,1,1,[alR0,alR1,alR2]⟩
theorem al_fits:fitsB 0 (halfD alD0) (fmtR alD0 (snapB vot0)) = true:=by
 unfold fitsB fmtR;rw [al_new0,al_t0,al_b0];refine decide_eq_true ⟨?_,by decide⟩;rw [al_cost (by decide) (by decide) (by decide) (by decide)];decide
theorem al_d1:(putD (claimD (newD 40) (fmtT (newD 40) + 1)) (firstD (newD 40) (fmtS (newD 40))) (frR (fmtR (newD 40) (snapB vot0)))).flush = alD1:=by
 show (putD (claimD alD0 (fmtT alD0 + 1)) (firstD alD0 (fmtS alD0)) (frR (fmtR alD0 (snapB vot0)))).flush = alD1;unfold fmtR fmtS claimD;rw [al_new0,al_t0,al_b0,al_sec0,numB_small (by decide)];show (putD _ _ (frR alR0)).flush = _;rw [al_f0];rfl
theorem al_l1:fmtL (newD 40) (snapB vot0) = alL1:=by
 show fmtL alD0 (snapB vot0) = alL1;unfold fmtL fmtS fmtR;rw [al_new0,al_t0,al_b0,al_sec0];rfl
theorem al_d2:aocE alD1 alL1 (snapB vot0) alB1 = 0∧wrtD alD1 alL1 (snapB vot0) alB1 = alD2∧aocL alD1 alL1 (snapB vot0) alB1 = alL2:=by
 have h:=al_app (d:=alD1) (v:=alL1) (b:=alB1) (snapB vot0) rfl (by decide) al_u1 rfl (by decide) (by decide) (by decide) (by decide);refine ⟨h.1,h.2.1.trans ?_,h.2.2⟩;show (putD _ _ (frR alR1)).flush = _;rw [al_f1];rfl
theorem al_d3:aocE alD2 alL2 (snapB alS1) alB2 = 0∧wrtD alD2 alL2 (snapB alS1) alB2 = alD3∧aocL alD2 alL2 (snapB alS1) alB2 = alL3:=by
 have h:=al_app (d:=alD2) (v:=alL2) (b:=alB2) (snapB alS1) rfl (by decide) al_u2 rfl (by decide) (by decide) (by decide) (by decide);refine ⟨h.1,h.2.1.trans ?_,h.2.2⟩;show (putD _ _ (frR alR2)).flush = _;rw [al_f2];rfl
theorem al_crash:alD3.crash 0 (-1) = alD3:=rfl
theorem al_d4:aocE (claimD alD3 2) (opnL alD3) (snapB alS2) alB3 = 0:=by
 refine (al_app (d:=claimD alD3 2) (v:=opnL alD3) (b:=alB3) (u:=3) (snapB alS2) rfl (by decide) ?_ rfl ?_ ?_ ?_ (by decide)).1
 ·show usedR (newR alD3) = 3;rw [al_new3];exact al_u3
 ·show numF (newR alD3) < 128;rw [al_new3];decide
 ·show fmtT alD3 + 1 < 128;rw [al_t3];decide
 ·show (newR alD3).length < 128;rw [al_new3];decide
theorem al_replay:Replay vot0 [alB1,alB2] alS2:=by
 have h1:=RecS.p vot0 1 0 (by decide) (by decide);rw [al_b1] at h1;have h2:=RecS.a alS1 1 0 0 [ale] (by decide) (by decide) (by decide) (by decide) (by decide);rw [al_b2] at h2;exact ⟨_,h1,_,h2,rfl⟩
theorem bal_eql (a b c d:Int) (w:World):(binOp .eql 23 (.agg #[.int .i64 a,.int .i64 b]) (.agg #[.int .i64 c,.int .i64 d])).run Tryz.prog w = .ok (.bool (decide (a = c∧b = d))) w:=by
 by_cases h1:a = c <;> by_cases h2:b = d <;> simp [go_sem,h1,h2]
structure AlP (W:World) (db lb vb:Nat) (s:VotS) (d:DskV) (v:LogV) (V:VotM) (M:DskM) (L:LogM) (w w':World):Prop where
 x:∃ M' L' V',Hold W db lb vb V' M' L' w'∧V'.s = s∧V'.nu = V.nu∧M'.d = d∧L'.v = v∧M'.m + M'.d.C.length≤M.m + M.d.C.length + 3000∧GrX (vb :: (M.own db ++ L.own lb)) w w'
theorem al_prep {G:List Nat} {E:Nat→Addr} {W:World} (w:World) (hE:EAt G E W) (i0:4 ∈ G) (i4:0 ∈ G) (i5:1 ∈ G) (i3:5 ∈ G) (i6:2 ∈ G) (i8:6 ∈ G) {db lb vb:Nat} {V:VotM} {M:DskM} {L:LogM} (h:Hold W db lb vb V M L w) (hC:M.m + M.d.C.length≤5000) (hs:V.s = vot0) (hd:M.d = alD1) (hl:L.v = alL1) :
 Calls Tryz.prog 13 #[.pointer (some ⟨vb,0,none⟩),.agg #[.int .i64 1,.int .i64 0]] w fun e w' => (∃ a c,e = .returned (.tuple #[.agg #[.int .i64 0,.int .i64 0],.slice a 0 c,.nilIface]))∧AlP W db lb vb alS1 alD2 alL2 V M L w w':=by
 refine (prep_new w hE i0 i4 i5 i3 i6 i8 h (by omega) (by rw [hd];decide) ⟨1,0⟩ 1 0 rfl rfl (by unfold mayB;rw [hs];decide) (by rw [hs];decide)).mono ?_;rintro e w' ⟨M',L',V',own,h1,h2,h3,rfl,-,h5,h6,h7,h8⟩;rw [hd,hl,hs,al_b1,al_d2.2.1] at h1;rw [hd,hl,hs,al_b1,al_d2.2.2] at h2;rw [hd,hl,hs,al_b1,al_d2.1] at h8;rcases h8 with ⟨-,h9,a,c,Lc,h10,-⟩ | ⟨g,h9,-⟩
 ·exact ⟨⟨a,c,h10⟩,⟨M',L',V',h3,h9,h7,h1,h2,h5,h6⟩⟩
 ·exact absurd rfl h9
theorem al_acc {G:List Nat} {E:Nat→Addr} {W:World} (w:World) (hE:EAt G E W) (i0:4 ∈ G) (i4:0 ∈ G) (i5:1 ∈ G) (i3:5 ∈ G) (i6:2 ∈ G) (i8:6 ∈ G) {db lb vb:Nat} {V:VotM} {M:DskM} {L:LogM} (h:Hold W db lb vb V M L w) (hC:M.m + M.d.C.length≤5000) (hs:V.s = alS1) (hd:M.d = alD2) (hl:L.v = alL2) (b off:Nat) (hM:LedM Any w (some ⟨b,off,none⟩) [⟨ale,none,0⟩]) :
 Calls Tryz.prog 14 #[.pointer (some ⟨vb,0,none⟩),.agg #[.int .i64 1,.int .i64 0],.slice (some ⟨b,off,none⟩) 1 1] w fun e w' => e = .returned .nilIface∧AlP W db lb vb alS2 alD3 alL3 V M L w w':=by
 have hsh:shN alS1.l (Ents [⟨ale,none,0⟩]) = 0:=rfl;refine (acc_go_s w hE i0 i4 i5 i3 i6 i8 h (by omega) (by rw [hd];decide) ⟨1,0⟩ 1 0 rfl rfl (by unfold mayB;rw [hs];decide) b off 1 [⟨ale,none,0⟩] hM (by decide) (by decide)).mono ?_;rintro e w' hq;obtain ⟨M',L',V',h0,h1,h2,h3,h4,h5,h6,h7,h8⟩:=hq.x;rw [hd,hl,hs,hsh] at h0 h1 h2 h3;have e2:vrB [2,1,0,0] (some ((Ents [⟨ale,none,0⟩]).drop 0)) = alB2:=al_b2;rw [e2,al_d3.1] at h0 h3;rw [e2,al_d3.2.1] at h1;rw [e2,al_d3.2.2] at h2;rw [if_pos rfl] at h3;exact ⟨h0,⟨M',L',V',h5,h3,h4,h1,h2,h7,h8⟩⟩
theorem al_claim {G:List Nat} {E:Nat→Addr} {W:World} (w:World) (hE:EAt G E W) (i0:4 ∈ G) (i4:0 ∈ G) (i5:1 ∈ G) (i3:5 ∈ G) (i6:2 ∈ G) {db lb vb:Nat} {V:VotM} {M:DskM} {L:LogM} (h:Hold W db lb vb V M L w) (hC:M.m + M.d.C.length≤50000) (hs:V.s = alS2) (hd:M.d = claimD alD3 2) (hl:L.v = opnL alD3) (hn:V.nu = 2) :
 Calls Tryz.prog 18 #[.pointer (some ⟨vb,0,none⟩),.agg #[.int .i64 0,.int .i64 0]] w fun e w' => e = .returned (.tuple #[.agg #[.int .i64 2,.int .i64 2],.nilIface])∧Gr W w'∧GrX (vb :: (M.own db ++ L.own lb)) w w':=by
 refine (claim_go w hE i0 i4 i5 i3 i6 h (by omega) (by rw [hd];decide) ⟨0,0⟩ 1 (by rw [hs];decide) (by decide)).mono ?_;rintro e w' ⟨M',L',V',own,-,-,h3,rfl,-,-,h6,-,h8⟩;have e3:vrB [3,1 + 1] none = alB3:=al_b3;rw [hd,hl,hs,e3,al_d4,hn] at h8;rcases h8 with ⟨-,-,h10⟩ | ⟨g,h9,-⟩
 ·exact ⟨h10,h3.g,h6⟩
 ·exact absurd rfl h9
set_option maxRecDepth 100000 in
set_option maxHeartbeats 6400000 in
theorem alive18_any {G:List Nat} {E:Nat→Addr} (w:World) (hE:EAt G E w) (i0:4 ∈ G) (i4:0 ∈ G) (i5:1 ∈ G) (i1:3 ∈ G) (i2:9 ∈ G) (i3:5 ∈ G) (i6:2 ∈ G) (i8:6 ∈ G) :
 Calls Tryz.prog 7 #[] w fun e w' => e = .returned (.bool true)∧Gr w w':=by
 have hnew:Calls Tryz.prog 11 #[.int .i64 40] w fun e w' => ∃ (db:Nat) (M:DskM),e = .returned (.tuple #[.pointer (some ⟨db,0,none⟩),.nilIface])∧M.d = newD 40∧M.m = 0∧DskAt w' db M∧Gr w w'∧∀ b ∈ M.own db,w.heap.size≤b:=dnew_any w 40 (by decide) (by decide)
 replace hnew:=Lib.hid hnew;replace hE:=Lib.hid hE;go_enter Tryz.func7,Tryz.ntmps7;go_wp2_with fail;refine hnew.out.mono ?_;rintro e w1 ⟨db,M1,rfl,hd1,hm1,hD1,g1,ho1⟩;have hfm:=vformat_of (W:=w) w1 hE.out g1 i0 2 (by decide) hD1 ho1 (fun w2 a c g hD hb hc hx => format_yes_z w w2 hE.out (g1.trans g) i4 i5 i1 i2 i3 i6 hD (by rw [hd1];rfl) (by rw [hm1,hd1];decide) (by rw [hd1];decide) (by rw [hd1];show numF (newR alD0) = 0;rw [al_new0];rfl) ho1 a c _ hb hc (fun x h => (hx x h).1) (by rw [al_b0];decide) (fun x h => (hx x h).2) (by rw [hd1];show fmtT alD0 < _;rw [al_t0];decide) (by rw [hd1];exact al_fits));rw [hd1,al_d1,al_l1] at hfm;replace hfm:Calls Tryz.prog 12 #[.pointer (some ⟨db,0,none⟩),.int .i64 2] w1 (VopP w db 2 vot0 alD1 alL1 M1 w1):=hfm;have hmm1:M1.m + M1.d.C.length≤0:=by rw [hm1,hd1];decide
 replace hfm:=Lib.hid hfm;replace hd1:=Lib.hid hd1;replace hm1:=Lib.hid hm1;replace hD1:=Lib.hid hD1;replace ho1:=Lib.hid ho1;go_wp2_with fail;refine hfm.out.mono ?_;rintro e w2 hq2;obtain ⟨vb,lb,V2,M2,L2,rfl,hd2,hl2,hm2,hH2,hs2,hn2,-,-,-⟩:=hq2.x;clear hq2;have hpr:=al_prep w2 hE.out i0 i4 i5 i3 i6 i8 hH2 (by omega) hs2 hd2 hl2;replace hpr:=Lib.hid hpr;replace hH2:=Lib.hid hH2;replace hd2:=Lib.hid hd2;replace hl2:=Lib.hid hl2;replace hs2:=Lib.hid hs2;replace hn2:=Lib.hid hn2;go_wp2_with fail;refine hpr.out.mono ?_;rintro e w3 ⟨⟨a3,c3,rfl⟩,hq3⟩;obtain ⟨M3,L3,V3,hH3,hs3,hn3,hd3,hl3,hm3,g3⟩:=hq3.x;clear hq3;obtain ⟨w4,hw4⟩:∃ w4,w4 = (w3.alloc (.cells #[.int .i64 0,.int .i64 0] 23)).alloc (.cells #[.int .i64 0,.int .i64 1,.int .i64 3,.int .i64 0,.int .i64 0,.int .i64 0,.int .i64 0,.int .i64 0,.slice none 0 0,.int .i64 0] 73):=⟨_,rfl⟩
 have g34:Gr w3 w4:=by rw [hw4];exact ((Gr.refl w3).alloc _).alloc _
 have hM4:LedM Any w4 (some ⟨w3.heap.size + 1,0,none⟩) [⟨ale,none,0⟩]:=by
  refine ⟨⟨?_,fun _ _ _ => trivial⟩,fun y hy => ?_⟩
  ·rw [hw4];have:=recs_alloc EntM.cells_len (w3.alloc (.cells #[.int .i64 0,.int .i64 0] 23)) [⟨ale,none,0⟩] 73 _ rfl
   rwa [World.size_alloc] at this
  ·rw [List.mem_singleton.1 hy];exact ⟨RecsIn.nil _ _ _ _ _,fun _ => rfl,Nat.le_refl _,Nat.zero_le _,by decide⟩
 have hH4:=hH3.gr g34;have hac:=al_acc w4 hE.out i0 i4 i5 i3 i6 i8 hH4 (by omega) hs3 hd3 hl3 _ _ hM4;replace hac:=Lib.hid hac;replace hH3:=Lib.hid hH3;replace hH4:=Lib.hid hH4;replace hM4:=Lib.hid hM4;replace hd3:=Lib.hid hd3;replace hl3:=Lib.hid hl3;replace hs3:=Lib.hid hs3;replace hn3:=Lib.hid hn3;replace g3:=Lib.hid g3;replace hw4:=Lib.hid hw4;go_wp2_with fail;rw [← hw4.out];refine hac.out.mono ?_;rintro e w5 ⟨rfl,hq5⟩;obtain ⟨M5,L5,V5,hH5,hs5,hn5,hd5,hl5,hm5,g5⟩:=hq5.x;clear hq5;have hcr:=dcrash_nil w5 hH5.d (by rw [hd5];rfl) 0 (-1);rw [hd5,al_crash] at hcr;replace hcr:Calls Tryz.prog 27 #[.pointer (some ⟨db,0,none⟩),.int .u64 0,.int .i64 (-1)] w5 fun e w' => ∃ M',e = .returned (.tuple #[])∧DskP db alD3 M5 M' w5 w'∧M'.m = M5.m:=hcr
 have hmw5:=hH5.mw;have gW5:=hH5.g;replace hcr:=Lib.hid hcr;replace hH5:=Lib.hid hH5;replace hd5:=Lib.hid hd5;replace hl5:=Lib.hid hl5;replace hs5:=Lib.hid hs5;replace hn5:=Lib.hid hn5;replace g5:=Lib.hid g5;go_wp2_with fail;refine hcr.out.mono ?_;rintro e w6 ⟨M6,rfl,hP6,hm6⟩;obtain ⟨hd6,hD6,g6,ho6⟩:=hP6;have gW6:Gr w w6:=GrX.all gW5 g6 hmw5;have hmw6:∀ b ∈ M6.own db,w.heap.size≤b:=fun b hb => by
  rcases ho6 b hb with h | h
  ·exact hmw5 b h
  ·have:=gW5.size;omega
 have hC6:M6.m + M6.d.C.length≤7000:=by
  have h1:M6.d.C.length = 0:=by rw [hd6];rfl
  omega
 have hop:=vopen_of (W:=w) w6 hE.out gW6 i0 2 (by decide) hmw6 (open_yes w w6 hE.out gW6 i4 i5 i1 i2 i3 i6 hD6 (by rw [hd6];rfl) (by omega) (by rw [hd6];decide) (by rw [hd6,al_new3];decide) (by rw [hd6,al_t3];decide)) vot0_ok (by rw [hd6,al_new3,al_b0];rfl) al_replay (by decide);rw [hd6,al_t3] at hop;replace hop:Calls Tryz.prog 20 #[.pointer (some ⟨db,0,none⟩),.int .i64 2] w6 (VopP w db 2 alS2 (claimD alD3 2) (opnL alD3) M6 w6):=hop;replace hop:=Lib.hid hop;replace hd6:=Lib.hid hd6;replace hD6:=Lib.hid hD6;replace ho6:=Lib.hid ho6;replace g6:=Lib.hid g6;go_wp2_with fail;refine hop.out.mono ?_;rintro e w7 hq7;obtain ⟨vb7,lb7,V7,M7,L7,rfl,hd7,hl7,hm7,hH7,hs7,hn7,-,-,-⟩:=hq7.x;clear hq7;have hva:=vaccepted_any w7 hH7.v;rw [hs7] at hva;replace hva:Calls Tryz.prog 16 #[.pointer (some ⟨vb7,0,none⟩)] w7 fun e w' => (∃ a c L,e = .returned (.tuple #[.agg #[.int .i64 1,.int .i64 0],.slice a 1 c])∧Ents L = alS2.l∧LedM (fun b => w7.heap.size≤b) w' a L∧(a = none→c = 0)∧alS2.l.length≤c)∧Gr w7 w':=hva
 replace hva:=Lib.hid hva;replace hH7:=Lib.hid hH7;replace hs7:=Lib.hid hs7;replace hd7:=Lib.hid hd7;replace hl7:=Lib.hid hl7;replace hn7:=Lib.hid hn7;go_wp2_with fail;refine hva.out.mono ?_;rintro e w8 ⟨⟨a8,c8,L8,rfl,-,-,-,-⟩,g8⟩;obtain ⟨w9,hw9⟩:∃ w9,w9 = w8.alloc (.cells #[.int .i64 1,.int .i64 0] 23):=⟨_,rfl⟩
 have g89:Gr w8 w9:=by rw [hw9];exact (Gr.refl w8).alloc _
 have hb9:Blk w9 w8.heap.size #[.int .i64 1,.int .i64 0] 23:=by rw [hw9];exact Blk.new _ _ _
 have hH9:=hH7.out.gr (g8.trans g89);have hcl:=al_claim w9 hE.out i0 i4 i5 i3 i6 hH9 (by omega) hs7.out hd7.out hl7.out hn7.out;have hlt:∀ x ∈ vb7 :: (M7.own db ++ L7.own lb7),x < w7.heap.size:=fun x hx => by
  rcases List.mem_cons.1 hx with rfl | hx
  ·exact hH7.out.v.b.lt
  ·exact hH7.out.own_lt x hx
 have z8:=g8.size;replace hcl:=Lib.hid hcl;replace hH9:=Lib.hid hH9;replace hb9:=Lib.hid hb9;replace hw9:=Lib.hid hw9;replace hlt:=Lib.hid hlt;go_wp2_with fail;rw [← hw9.out];refine hcl.out.mono ?_;rintro e wa ⟨rfl,gWa,ga⟩;have hba:=hb9.out.grx ga (fun hm => by have:=hlt.out _ hm;omega);have x0:=hba.cell (i:=0) (v:=.int .i64 1) rfl;have xz:=hba.lt;have y0:(wa.alloc (.cells #[.int .i64 2,.int .i64 2] 23)).cell? ⟨w8.heap.size,0,none⟩ = some (.int .i64 1):=(hba.gr ((Gr.refl wa).alloc _)).cell (i:=0) (v:=.int .i64 1) rfl;have gf:Gr w (wa.alloc (.cells #[.int .i64 2,.int .i64 2] 23)):=gWa.alloc _;have hbq:=fun w => bal_eql 2 2 2 2 w
 replace hba:=Lib.hid hba;replace ga:=Lib.hid ga;go_wp2_with fail;go_ret;exact ⟨rfl,gf⟩
theorem op18_get {w:World} {a:Option Addr} {l:List Op18} (h:RecsAt 6 Op18.cells w a l) {k:Nat} {x:Op18} (hx:l[k]? = some x):∃ b off,a = some ⟨b,off,none⟩∧b < w.heap.size∧w.cell? ⟨b,off + k * 6,none⟩ = some (.int .i64 x.kd)∧w.cell? ⟨b,off + k * 6 + 1,none⟩ = some (.int .i64 x.tn)∧w.cell? ⟨b,off + k * 6 + 2,none⟩ = some (.int .u64 x.kp)∧w.cell? ⟨b,off + k * 6 + 3,none⟩ = some (.int .i64 x.b.r)∧w.cell? ⟨b,off + k * 6 + 4,none⟩ = some (.int .i64 x.b.n)∧w.cell? ⟨b,off + k * 6 + 5,none⟩ = some (.slice x.a x.L.length x.c):=by
 obtain ⟨b,off,ha,hb,hc⟩:=h k x hx;exact ⟨b,off,ha,hb,hc 0 _ rfl,hc 1 _ rfl,hc 2 _ rfl,hc 3 _ rfl,hc 4 _ rfl,hc 5 _ rfl⟩
theorem stand_zero:∀ (l:List (List UInt8)),(∀ x ∈ l,x = zeroS)→standF l = none
 | [],_ => rfl
 | s :: t,h => by
  have h1:=h s List.mem_cons_self;rw [h1];show (if zeroS.head? = some 1 then parF (strmF zeroS t) else none) = none;rw [if_neg (by decide)]
theorem area_zero (n f h:Nat):areaF (secL (newD n) f h) = []:=by
 rw [area_len];refine scan_stop al_u0 ?_;refine stand_zero _ (fun x hx => ?_);have hx2:=List.mem_of_mem_drop hx;unfold secL at hx2;obtain ⟨i,-,rfl⟩:=List.mem_map.1 hx2;rfl
theorem new_zero (n:Nat):newR (newD n) = []:=by unfold newR areaA areaB;split <;> exact area_zero _ _ _
theorem fmtT_zero (n:Nat):fmtT (newD n) = 0:=by
 unfold fmtT topF;rw [new_zero];show max (max 0 (cellF zeroS)) (cellF zeroS) = 0;rw [show cellF zeroS = 0 by kernel_rfl];rfl
theorem fit_zero (n:Nat) (h:4≤n):fitsB 0 (halfD (newD n)) (fmtR (newD n) (snapB vot0)) = true:=by
 unfold fitsB fmtR;rw [new_zero,fmtT_zero,al_b0];refine decide_eq_true ⟨?_,by decide⟩;rw [al_cost (by decide) (by decide) (by decide) (by decide)];show 0 + 1≤(n - 2) / 2;omega
def LInv (w0:World) (db lb vb bd:Nat) (wr:World):Prop:=∃ V M L,Hold w0 db lb vb V M L wr∧M.d.n = 1024∧M.m + M.d.C.length≤bd
theorem LInv.le {w0:World} {db lb vb bd bd':Nat} {wr:World} (h:LInv w0 db lb vb bd wr) (hb:bd≤bd'):LInv w0 db lb vb bd' wr:=by
 obtain ⟨V,M,L,h1,h2,h3⟩:=h;exact ⟨V,M,L,h1,h2,by omega⟩
theorem LInv.gr {w0:World} {db lb vb bd:Nat} {wr wr':World} (h:LInv w0 db lb vb bd wr) (g:Gr wr wr'):LInv w0 db lb vb bd wr':=by
 obtain ⟨V,M,L,h1,h2,h3⟩:=h;exact ⟨V,M,L,h1.gr g,h2,h3⟩
structure LostI (w0:World) (lo hi db lb vb p1 p2:Nat) (S:VotS) (al:Option Addr) (Ll:List EntM) (V:VotM) (M:DskM) (L:LogM) (bd:Nat) (wr:World):Prop where
 h:Hold w0 db lb vb V M L wr
 n:M.d.n = 1024
 t:M.d.lost = true
 s:V.s = S
 m:M.m + M.d.C.length≤bd
 o:∀ x ∈ vb :: (M.own db ++ L.own lb),x < lo ∨ hi≤x
 p:Blk wr p1 #[.int .i64 S.pr,.int .i64 S.pn] 23
 q:Blk wr p2 #[.int .i64 S.ar,.int .i64 S.an] 23
 l:LedM (fun b => lo≤b∧b < hi) wr al Ll
 z1:lo≤p1∧p1 < hi
 z2:lo≤p2∧p2 < hi
 z3:hi≤wr.heap.size
theorem LostI.gr {w0:World} {lo hi db lb vb p1 p2:Nat} {S:VotS} {al:Option Addr} {Ll:List EntM} {V:VotM} {M:DskM} {L:LogM} {bd:Nat} {w w':World} (h:LostI w0 lo hi db lb vb p1 p2 S al Ll V M L bd w) (g:Gr w w'):LostI w0 lo hi db lb vb p1 p2 S al Ll V M L bd w' :=
 ⟨h.h.gr g,h.n,h.t,h.s,h.m,h.o,h.p.gr g,h.q.gr g,h.l.gr g,h.z1,h.z2,Nat.le_trans h.z3 g.size⟩
theorem LostI.le {w0:World} {lo hi db lb vb p1 p2:Nat} {S:VotS} {al:Option Addr} {Ll:List EntM} {V:VotM} {M:DskM} {L:LogM} {bd bd':Nat} {w:World} (h:LostI w0 lo hi db lb vb p1 p2 S al Ll V M L bd w) (hb:bd≤bd'):LostI w0 lo hi db lb vb p1 p2 S al Ll V M L bd' w :=
 ⟨h.h,h.n,h.t,h.s,Nat.le_trans h.m hb,h.o,h.p,h.q,h.l,h.z1,h.z2,h.z3⟩
theorem LostI.vc {w0:World} {lo hi db lb vb p1 p2:Nat} {S:VotS} {al:Option Addr} {Ll:List EntM} {V V':VotM} {M M':DskM} {L L':LogM} {bd:Nat} {w w':World} (h:LostI w0 lo hi db lb vb p1 p2 S al Ll V M L bd w) (c:VcP w0 db lb vb V V' M M' L L' w w'):LostI w0 lo hi db lb vb p1 p2 S al Ll V' M' L' (bd + 3000) w':=by
 have hn:∀ x,lo≤x∧x < hi→x ∉ vb :: (M.own db ++ L.own lb):=fun x hx hm => by
  rcases h.o x hm with h1 | h1
  ·omega
  ·omega
 refine ⟨c.h,by rw [c.n,h.n],by rw [(c.l h.t).1,h.t],by rw [(c.l h.t).2,h.s],by have:=c.m;have:=h.m;omega,fun x hx => ?_,h.p.grx c.g (hn _ h.z1),h.q.grx c.g (hn _ h.z2),h.l.grx c.g (fun y hy hk => hn y hk hy),h.z1,h.z2,Nat.le_trans h.z3 c.g.size⟩;rcases List.mem_cons.1 hx with rfl | hx
 ·exact h.o _ List.mem_cons_self
 ·rcases c.o x hx with h1 | h1
  ·exact h.o x (List.mem_cons_of_mem _ h1)
  ·right;have:=h.z3;omega
set_option maxRecDepth 100000 in
set_option maxHeartbeats 12800000 in
theorem voterLost_any {G:List Nat} {E:Nat→Addr} (w:World) (hE:EAt G E w) (i0:4 ∈ G) (i4:0 ∈ G) (i5:1 ∈ G) (i1:3 ∈ G) (i2:9 ∈ G) (i3:5 ∈ G) (i6:2 ∈ G) (i8:6 ∈ G) (a1 a2:Option Addr) (c1 c2:Nat) (l1 l2:List Op18) (hs1:RecsIn Any 6 Op18.cells w a1 l1) (hs2:RecsIn Any 6 Op18.cells w a2 l2) (hk1:∀ x ∈ l1,x.ok w) (hk2:∀ x ∈ l2,x.ok w) (hm1:l1.length≤maxLen) :
 Calls Tryz.prog 4 #[.slice a1 l1.length c1,.slice a2 l2.length c2] w fun e w' => e = .returned (.bool true)∧Gr w w':=by
 have hal:=alive18_any w hE i0 i4 i5 i1 i2 i3 i6 i8;obtain ⟨n1,hn1⟩:∃ n1,n1 = l1.length:=⟨_,rfl⟩
 obtain ⟨n2,hn2⟩:∃ n2,n2 = l2.length:=⟨_,rfl⟩
 rw [← hn1] at hm1 ⊢;rw [← hn2];unfold maxLen at hm1;replace hn1:=Lib.hid hn1;replace hn2:=Lib.hid hn2;replace hal:=Lib.hid hal;replace hE:=Lib.hid hE;replace hs1:=Lib.hid hs1;replace hs2:=Lib.hid hs2;replace hk1:=Lib.hid hk1;replace hk2:=Lib.hid hk2;go_enter Tryz.func4,Tryz.ntmps4;go_wp2_with fail;refine hal.out.mono ?_;rintro e w0 ⟨rfl,g0⟩;have hE0:=hE.out.gr g0;have hnew:Calls Tryz.prog 11 #[.int .i64 1024] w0 fun e w' => ∃ (db:Nat) (M:DskM),e = .returned (.tuple #[.pointer (some ⟨db,0,none⟩),.nilIface])∧M.d = newD 1024∧M.m = 0∧DskAt w' db M∧Gr w0 w'∧∀ b ∈ M.own db,w0.heap.size≤b:=dnew_any w0 1024 (by decide) (by decide)
 replace hnew:=Lib.hid hnew;replace hE0:=Lib.hid hE0;go_wp2_with fail;refine hnew.out.mono ?_;rintro e w1 ⟨db,M1,rfl,hd1,hm1',hD1,g1,ho1⟩;have hfm:=vformat_of (W:=w0) w1 hE0.out g1 i0 0 (by decide) hD1 ho1 (fun w2 a c g hD hb hc hx => format_yes_z w0 w2 hE0.out (g1.trans g) i4 i5 i1 i2 i3 i6 hD (by rw [hd1];rfl) (by rw [hm1',hd1];decide) (by rw [hd1];decide) (by rw [hd1,new_zero];rfl) ho1 a c _ hb hc (fun x h => (hx x h).1) (by rw [al_b0];decide) (fun x h => (hx x h).2) (by rw [hd1,fmtT_zero];decide) (by rw [hd1];exact fit_zero 1024 (by decide)));obtain ⟨dv,hdv⟩:∃ dv,dv = (putD (claimD M1.d (fmtT M1.d + 1)) (firstD M1.d (fmtS M1.d)) (frR (fmtR M1.d (snapB vot0)))).flush:=⟨_,rfl⟩
 obtain ⟨lv,hlv⟩:∃ lv,lv = fmtL M1.d (snapB vot0):=⟨_,rfl⟩
 rw [← hdv,← hlv] at hfm;replace hfm:Calls Tryz.prog 12 #[.pointer (some ⟨db,0,none⟩),.int .i64 0] w1 (VopP w0 db 0 vot0 dv lv M1 w1):=hfm;have hdn:dv.n = 1024:=by rw [hdv,hd1];rfl
 have hmm1:M1.m + M1.d.C.length≤0:=by rw [hm1',hd1];decide
 replace hfm:=Lib.hid hfm;replace hd1:=Lib.hid hd1;replace hm1':=Lib.hid hm1';replace hD1:=Lib.hid hD1;replace ho1:=Lib.hid ho1;replace hdv:=Lib.hid hdv;replace hlv:=Lib.hid hlv;replace hdn:=Lib.hid hdn;go_wp2_with fail;refine hfm.out.mono ?_;rintro e w2 hq2;obtain ⟨vb,lb,V2,M2,L2,rfl,hd2,hl2,hm2',hH2,hs2',hn2',-,-,-⟩:=hq2.x;clear hq2;have hI2:LInv w0 db lb vb 1000 w2:=⟨V2,M2,L2,hH2,by rw [hd2,hdn.out],by omega⟩
 replace hI2:=Lib.hid hI2;replace hd2:=Lib.hid hd2;replace hl2:=Lib.hid hl2;replace hH2:=Lib.hid hH2;replace hs2':=Lib.hid hs2';replace hn2':=Lib.hid hn2';clear hmm1 hm2';go_wp2_with fail;go_loopw [48] (fun iv wr => ∃ k:Nat,k≤n1∧iv = .int .i64 k∧Hid (LInv w0 db lb vb (1000 + 6000 * min k 60) wr)) (fun iv _ => n1 - (intOf iv).toNat);case atStart => exact ⟨0,Nat.zero_le _,rfl,Lib.hid (hI2.out.le (by omega))⟩
 case round =>
  obtain ⟨k,hk,rfl,hI⟩:=hrel;obtain ⟨wo,hwo⟩:∃ wo:World,wo = wr:=⟨wr,rfl⟩
  by_cases hlt:k < n1
  ·have hltd:decide ((k:Int) < n1) = true:=decide_eq_true (by omega);have hlt2:(k:Int) < n1:=by omega
   obtain ⟨x,hx⟩:=get_some l1 k (by rw [← hn1.out];exact hlt);obtain ⟨V,M,L,hH,hMn,hMb⟩:=hI.out;have gwr:Gr w wr:=g0.trans hH.g;obtain ⟨sb,so,hae,hsb,x0,x1,x2,x3,x4,x5⟩:=op18_get (RecsAt.gr' hs1.out.1 gwr) hx;have hxo:=hk1.out x (get_mem hx);subst hae;obtain ⟨kd,tn,kp,b,oL,oa,oc⟩:=x;dsimp only at x0 x1 x2 x3 x4 x5;obtain ⟨ol,hol⟩:∃ ol,ol = oL.length:=⟨_,rfl⟩
   rw [← hol] at x5;obtain ⟨wb,hwb⟩:∃ wb,wb = wr.alloc (.cells #[.int .i64 kd,.int .i64 tn,.int .u64 kp,.int .i64 b.r,.int .i64 b.n,.slice oa ol oc] 40):=⟨_,rfl⟩
   have gb:Gr wr wb:=by rw [hwb];exact (Gr.refl wr).alloc _
   have hbb:Blk wb wr.heap.size #[.int .i64 kd,.int .i64 tn,.int .u64 kp,.int .i64 b.r,.int .i64 b.n,.slice oa ol oc] 40:=by rw [hwb];exact Blk.new _ _ _
   have y0:=hbb.cell (i:=0) (v:=.int .i64 kd) rfl;have y1:=hbb.cell (i:=1) (v:=.int .i64 tn) rfl;have y2:=hbb.cell (i:=2) (v:=.int .u64 kp) rfl;have y3:=hbb.cell (i:=3) (v:=.int .i64 b.r) rfl;have y4:=hbb.cell (i:=4) (v:=.int .i64 b.n) rfl;have y5:=hbb.cell (i:=5) (v:=.slice oa ol oc) rfl;have yz:=hbb.lt;have hHb:=hH.gr gb;have hlt3:∀ y ∈ vb :: (M.own db ++ L.own lb),y < wr.heap.size:=fun y hy => by
    rcases List.mem_cons.1 hy with rfl | hy
    ·exact hH.v.b.lt
    ·exact hH.own_lt y hy
   have hLb:LedM Any wb oa oL:=hxo.1.gr (gwr.trans gb);replace hx:=Lib.hid hx;replace hxo:=Lib.hid hxo;replace hol:=Lib.hid hol;replace hH:=Lib.hid hH;replace hHb:=Lib.hid hHb;replace hwb:=Lib.hid hwb;replace hlt3:=Lib.hid hlt3;replace hbb:=Lib.hid hbb;replace hLb:=Lib.hid hLb;replace gwr:=Lib.hid gwr;replace gb:=Lib.hid gb;replace hMb:=Lib.hid hMb;replace hMn:=Lib.hid hMn;by_cases h60:k < 60
   ·have e60:decide ((k:Int) < 60) = true:=decide_eq_true (by omega);have i60:(k:Int) < 60:=by omega
    by_cases hkd1:kd = 1
    ·subst hkd1;have hpr:=prep_any wb hE0.out i0 i4 i5 i3 i6 i8 hHb.out (by have:=hMb.out;omega) (by rw [hMn.out];decide) b;replace hpr:=Lib.hid hpr;go_upto_region 12 with fail
     rw [← hwb.out];go_wp2_with fail;refine hpr.out.mono ?_;rintro e w3 ⟨V3,M3,L3,px,py,pa,pn,pc,er,rfl,hv,-⟩;have hb3:=hbb.out.grx hv.g (fun hm => by have:=hlt3.out _ hm;omega);clear y0 y1 y2 y3 y4 y5 yz;have y0:=hb3.cell (i:=0) (v:=.int .i64 1) rfl;have y1:=hb3.cell (i:=1) (v:=.int .i64 tn) rfl;have y2:=hb3.cell (i:=2) (v:=.int .u64 kp) rfl;have y3:=hb3.cell (i:=3) (v:=.int .i64 b.r) rfl;have y4:=hb3.cell (i:=4) (v:=.int .i64 b.n) rfl;have y5:=hb3.cell (i:=5) (v:=.slice oa ol oc) rfl;have yz:=hb3.lt;have hI3:LInv w0 db lb vb (1000 + 6000 * min (k + 1) 60) w3:=⟨V3,M3,L3,hv.h,by rw [hv.n,hMn.out],by have:=hv.m;have:=hMb.out;omega⟩
     replace hI3:=Lib.hid hI3;replace hv:=Lib.hid hv;replace hb3:=Lib.hid hb3;go_wp2_with fail;go_roundw;case rel => exact ⟨k + 1,by omega,by go_num,hI3⟩
     case measure => simp [intOf];omega
    ·by_cases hkd2:kd = 2
     ·subst hkd2;have hac:=acc_any wb hE0.out i0 i4 i5 i3 i6 i8 hHb.out (by have:=hMb.out;omega) (by rw [hMn.out];decide) b oa oc oL hLb.out hxo.out.2.2.1 hxo.out.2.2.2.1;rw [← hol.out] at hac;replace hac:=Lib.hid hac;go_upto_region 12 with fail
      rw [← hwb.out];go_wp2_with fail;refine hac.out.mono ?_;rintro e w3 ⟨V3,M3,L3,er,rfl,hv,-⟩;have hb3:=hbb.out.grx hv.g (fun hm => by have:=hlt3.out _ hm;omega);clear y0 y1 y2 y3 y4 y5 yz;have y0:=hb3.cell (i:=0) (v:=.int .i64 2) rfl;have y1:=hb3.cell (i:=1) (v:=.int .i64 tn) rfl;have y2:=hb3.cell (i:=2) (v:=.int .u64 kp) rfl;have y3:=hb3.cell (i:=3) (v:=.int .i64 b.r) rfl;have y4:=hb3.cell (i:=4) (v:=.int .i64 b.n) rfl;have y5:=hb3.cell (i:=5) (v:=.slice oa ol oc) rfl;have yz:=hb3.lt;have hI3:LInv w0 db lb vb (1000 + 6000 * min (k + 1) 60) w3:=⟨V3,M3,L3,hv.h,by rw [hv.n,hMn.out],by have:=hv.m;have:=hMb.out;omega⟩
      replace hI3:=Lib.hid hI3;replace hv:=Lib.hid hv;replace hb3:=Lib.hid hb3;go_wp2_with fail;go_roundw;case rel => exact ⟨k + 1,by omega,by go_num,hI3⟩
      case measure => simp [intOf];omega
     ·have q1:(kd == 1) = false:=by simpa using hkd1
      have q2:(kd == 2) = false:=by simpa using hkd2
      replace hkd1:=Lib.hid hkd1;replace hkd2:=Lib.hid hkd2;have hI3:LInv w0 db lb vb (1000 + 6000 * min (k + 1) 60) wb:=(hI.out.gr gb.out).le (by omega);replace hI3:=Lib.hid hI3;go_upto_region 12 with fail
      rw [← hwb.out];go_wp2_with fail;go_roundw;case rel => exact ⟨k + 1,by omega,by go_num,hI3⟩
      case measure => simp [intOf];omega
   ·have e60:decide ((k:Int) < 60) = false:=decide_eq_false (by omega);have i60:¬ (k:Int) < 60:=by omega
    have hI3:LInv w0 db lb vb (1000 + 6000 * min (k + 1) 60) wb:=(hI.out.gr gb.out).le (by omega);replace hI3:=Lib.hid hI3;go_upto_region 12 with fail
    rw [← hwb.out];go_wp2_with fail;go_roundw;case rel => exact ⟨k + 1,by omega,by go_num,hI3⟩
    case measure => simp [intOf];omega
  ·obtain rfl:k = n1:=by omega
   have hltd:decide ((k:Int) < k) = false:=decide_eq_false (by omega);obtain ⟨V,M,L,hH,hMn,hMb⟩:=hI.out;obtain ⟨S,hS⟩:∃ S,S = V.s:=⟨_,rfl⟩
   have hpm:=promised_any wr hH.v;rw [← hS] at hpm;have hlt3:∀ y ∈ vb :: (M.own db ++ L.own lb),y < wr.heap.size:=fun y hy => by
    rcases List.mem_cons.1 hy with rfl | hy
    ·exact hH.v.b.lt
    ·exact hH.own_lt y hy
   replace hpm:=Lib.hid hpm;replace hH:=Lib.hid hH;replace hMn:=Lib.hid hMn;replace hMb:=Lib.hid hMb;replace hlt3:=Lib.hid hlt3;go_wp2_with fail;refine hpm.out.mono ?_;rintro e w3 ⟨rfl,g3⟩;obtain ⟨w4,hw4⟩:∃ w4,w4 = w3.alloc (.cells #[.int .i64 S.pr,.int .i64 S.pn] 23):=⟨_,rfl⟩
   have g4:Gr w3 w4:=by rw [hw4];exact (Gr.refl w3).alloc _
   have hp4:Blk w4 w3.heap.size #[.int .i64 S.pr,.int .i64 S.pn] 23:=by rw [hw4];exact Blk.new _ _ _
   have hac:=vaccepted_any w4 (hH.out.gr (g3.trans g4)).v;rw [← hS] at hac;obtain ⟨sl,hsl⟩:∃ sl,sl = S.l.length:=⟨_,rfl⟩
   rw [← hsl] at hac;have z34:=g3.size;have z44:=hp4.lt;replace hac:=Lib.hid hac;replace hw4:=Lib.hid hw4;replace hp4:=Lib.hid hp4;replace hS:=Lib.hid hS;replace hsl:=Lib.hid hsl;go_wp2_with fail;rw [← hw4.out];refine hac.out.mono ?_;rintro e w5 ⟨⟨al,cl,Ll,rfl,hEl,hMl,-,-⟩,g5⟩;have hLl:Ll.length = sl:=by rw [hsl.out,← hEl,List.length_map]
   have hm64:Ll.length≤64:=by have:=(ledF_iff.1 hH.out.v.ok.2).1;rw [hLl,hsl.out,hS.out];exact this
   replace hLl:=Lib.hid hLl;replace hm64:=Lib.hid hm64;obtain ⟨w6,hw6⟩:∃ w6,w6 = w5.alloc (.cells #[.int .i64 S.ar,.int .i64 S.an] 23):=⟨_,rfl⟩
   have g6:Gr w5 w6:=by rw [hw6];exact (Gr.refl w5).alloc _
   have hq6:Blk w6 w5.heap.size #[.int .i64 S.ar,.int .i64 S.an] 23:=by rw [hw6];exact Blk.new _ _ _
   have z5:=g5.size;have z66:=hq6.lt;have gr6:Gr wr w6:=((g3.trans g4).trans g5).trans g6;have hH6:=hH.out.gr gr6;have hlo:=dlose_any w6 hH6.d;have hp6:=(hp4.out.gr g5).gr g6;have hM6:LedM (fun b => wr.heap.size≤b∧b < w6.heap.size) w6 al Ll:=(hMl.mono (K':=fun b => wr.heap.size≤b∧b < w6.heap.size) (fun b hb hk => ⟨by omega,by omega⟩)).gr g6;replace hlo:=Lib.hid hlo;replace hw6:=Lib.hid hw6;replace hq6:=Lib.hid hq6;replace hp6:=Lib.hid hp6;replace hM6:=Lib.hid hM6;replace hH6:=Lib.hid hH6;replace hEl:=Lib.hid hEl;clear hMl;go_wp2_with fail;rw [← hw6.out];refine hlo.out.mono ?_;rintro e w7 ⟨M7,rfl,hP7,hm7⟩;have p7:=hP7.log hH6.out.d hH6.out.l rfl (by rw [hP7.1,hm7];exact Nat.zero_le _);obtain ⟨hH7,-⟩:=hH6.out.logP p7;have hno:∀ y,wr.heap.size≤y∧y < w6.heap.size→y ∉ M.own db ++ L.own lb:=fun y hy hm => by have:=hlt3.out y (List.mem_cons_of_mem _ hm);omega
   have z7:=p7.g.size;have hI7:LostI w0 wr.heap.size w6.heap.size db lb vb w3.heap.size w5.heap.size S al Ll V M7 L (9000 * 0) w7:=by
    refine ⟨hH7,by rw [p7.d];exact hMn.out,by rw [p7.d];rfl,hS.out.symm,by rw [p7.d,hm7];exact Nat.le_refl _,fun x hx => ?_,hp6.out.grx p7.g (hno _ ⟨by omega,by omega⟩),hq6.out.grx p7.g (hno _ ⟨by omega,by omega⟩),hM6.out.grx p7.g (fun y hy hk => hno y hk hy),⟨by omega,by omega⟩,⟨by omega,by omega⟩,z7⟩;rcases List.mem_cons.1 hx with rfl | hx
    ·exact .inl (hlt3.out _ List.mem_cons_self)
    ·rcases p7.o x hx with h | h
     ·exact .inl (hlt3.out x (List.mem_cons_of_mem _ h))
     ·exact .inr h
   obtain ⟨lo,hlo'⟩:∃ lo,lo = wr.heap.size:=⟨_,rfl⟩
   obtain ⟨hi,hhi⟩:∃ hi,hi = w6.heap.size:=⟨_,rfl⟩
   obtain ⟨p1,hp1⟩:∃ p1,p1 = w3.heap.size:=⟨_,rfl⟩
   obtain ⟨p2,hp2⟩:∃ p2,p2 = w5.heap.size:=⟨_,rfl⟩
   rw [← hlo',← hhi,← hp1,← hp2] at hI7;rw [← hp1,← hp2];replace hI7:=Lib.hid hI7;replace hlo':=Lib.hid hlo';replace hhi:=Lib.hid hhi;replace hp1:=Lib.hid hp1;replace hp2:=Lib.hid hp2;replace hH7:=Lib.hid hH7;replace p7:=Lib.hid p7;replace hP7:=Lib.hid hP7;replace hno:=Lib.hid hno;clear z34 z44 z5 z66 z7;obtain ⟨wE,hwE⟩:∃ wE:World,wE = wr:=⟨wr,rfl⟩
   clear hI;go_wp2_with fail;go_loopw [89] (fun iv wr => ∃ (k:Nat) (V:VotM) (M:DskM) (L:LogM),k≤n2∧k≤61∧iv = .int .i64 k∧Hid (LostI w0 lo hi db lb vb p1 p2 S al Ll V M L (9000 * k) wr)) (fun iv _ => n2 - (intOf iv).toNat);case atStart => exact ⟨0,V,M7,L,Nat.zero_le _,Nat.zero_le _,rfl,hI7⟩
   case round =>
    obtain ⟨k,V,M,L,hk,hk61,rfl,hI⟩:=hrel;obtain ⟨wo,hwo⟩:∃ wo:World,wo = wr:=⟨wr,rfl⟩
    by_cases hlt:k < n2
    ·have hltd:decide ((k:Int) < n2) = true:=decide_eq_true (by omega);have hlt2:(k:Int) < n2:=by omega
     obtain ⟨x,hx⟩:=get_some l2 k (by rw [← hn2.out];exact hlt);have gwr:Gr w wr:=g0.trans hI.out.h.g;obtain ⟨sb,so,hae,hsb,x0,x1,x2,x3,x4,x5⟩:=op18_get (RecsAt.gr' hs2.out.1 gwr) hx;have hxo:=hk2.out x (get_mem hx);subst hae;obtain ⟨kd,tn,kp,b,oL,oa,oc⟩:=x;dsimp only at x0 x1 x2 x3 x4 x5;obtain ⟨ol,hol⟩:∃ ol,ol = oL.length:=⟨_,rfl⟩
     rw [← hol] at x5;obtain ⟨wb,hwb⟩:∃ wb,wb = wr.alloc (.cells #[.int .i64 kd,.int .i64 tn,.int .u64 kp,.int .i64 b.r,.int .i64 b.n,.slice oa ol oc] 40):=⟨_,rfl⟩
     have gb:Gr wr wb:=by rw [hwb];exact (Gr.refl wr).alloc _
     obtain ⟨ob,hob⟩:∃ ob,ob = wr.heap.size:=⟨_,rfl⟩
     have hbb:Blk wb ob #[.int .i64 kd,.int .i64 tn,.int .u64 kp,.int .i64 b.r,.int .i64 b.n,.slice oa ol oc] 40:=by rw [hwb,hob];exact Blk.new _ _ _
     have y0:=hbb.cell (i:=0) (v:=.int .i64 kd) rfl;have y1:=hbb.cell (i:=1) (v:=.int .i64 tn) rfl;have y2:=hbb.cell (i:=2) (v:=.int .u64 kp) rfl;have y3:=hbb.cell (i:=3) (v:=.int .i64 b.r) rfl;have y4:=hbb.cell (i:=4) (v:=.int .i64 b.n) rfl;have y5:=hbb.cell (i:=5) (v:=.slice oa ol oc) rfl;have yz:=hbb.lt;replace hx:=Lib.hid hx;replace hxo:=Lib.hid hxo;replace hol:=Lib.hid hol;replace hwb:=Lib.hid hwb;replace hbb:=Lib.hid hbb;replace gwr:=Lib.hid gwr;replace hob:=Lib.hid hob;by_cases h60:k = 61
     ·have e60:decide ((60:Int) < k) = true:=decide_eq_true (by omega);have i60:(60:Int) < k:=by omega
      replace h60:=Lib.hid h60;go_upto_region 23 with fail
      rw [← hwb.out,← hob.out];go_upto_region 31 with fail
      have hIw:=Lib.hid (hI.out.gr gb);have hop:=vopen_bad (E:=E) (g:=0) wb 0 (by decide) (open_lost w0 wb hE0.out hIw.out.h.g i4 i5 hIw.out.h.d hIw.out.t (by rw [hIw.out.n];decide));replace hop:Calls Tryz.prog 20 #[.pointer (some ⟨db,0,none⟩),.int .i64 0] wb fun q w' => q = .returned (.tuple #[.pointer none,lostE E])∧Gr wb w':=hop
      have he:=fun w => eql_same E 0 w
      have gE:=g0.trans hIw.out.h.g;replace hop:=Lib.hid hop;go_wp2_with fail;refine hop.out.mono ?_;rintro e wz ⟨rfl,gz⟩;have e4:=(hE.out.gr (gE.trans gz)).c0 i4;go_wp2_with fail;go_ret;exact ⟨rfl,gE.trans gz⟩
     ·have e60:decide ((60:Int) < k) = false:=decide_eq_false (by omega);have i60:¬ (60:Int) < k:=by omega
      have k60:k≤60:=by omega
      replace h60:=Lib.hid h60;have hMok:(1024:Nat) = 1024:=rfl;have hltc:∀ y ∈ vb :: (M.own db ++ L.own lb),y < wr.heap.size:=fun y hy => by
       rcases List.mem_cons.1 hy with rfl | hy
       ·exact hI.out.h.v.b.lt
       ·exact hI.out.h.own_lt y hy
      have hIb:=hI.out.gr gb;have hpr:=prep_any wb hE0.out i0 i4 i5 i3 i6 i8 hIb.h (by have:=hIb.m;omega) (by rw [hIb.n];decide) b;replace hpr:=Lib.hid hpr;replace hIb:=Lib.hid hIb;replace hltc:=Lib.hid hltc;go_upto_region 23 with fail
      rw [← hwb.out,← hob.out];go_wp2_with fail;refine hpr.out.mono ?_;rintro e w3 ⟨V3,M3,L3,px,py,pa,pn,pc,er,rfl,hv,hr⟩;obtain ⟨w4,hw4⟩:∃ w4,w4 = w3.alloc (.cells #[.int .i64 px,.int .i64 py] 23):=⟨_,rfl⟩
      have g4:Gr w3 w4:=by rw [hw4];exact (Gr.refl w3).alloc _
      have hI4:=(hIb.out.vc hv).gr g4;have hb4:=(hbb.out.grx hv.g (fun hm => by have:=hltc.out _ hm;have:=hob.out;omega)).gr g4;rw [hIb.out.s] at hr;have hr2:=hr.imp_left (fun h => (⟨h.1,h.2 hIb.out.t⟩:_∧_));clear hr;have hlt4:∀ y ∈ vb :: (M3.own db ++ L3.own lb),y ≠ ob:=fun y hy => by
       rcases List.mem_cons.1 hy with rfl | hy
       ·have:=hltc.out _ List.mem_cons_self;have:=hob.out;omega
       ·rcases hv.o y hy with h | h
        ·have:=hltc.out y (List.mem_cons_of_mem _ h);have:=hob.out;omega
        ·have:=hob.out;have:=gb.size;have:=hbb.out.lt;omega
      clear y0 y1 y2 y3 y4 y5 yz;have y0:=hb4.cell (i:=0) (v:=.int .i64 kd) rfl;have y1:=hb4.cell (i:=1) (v:=.int .i64 tn) rfl;have y2:=hb4.cell (i:=2) (v:=.int .u64 kp) rfl;have y3:=hb4.cell (i:=3) (v:=.int .i64 b.r) rfl;have y4:=hb4.cell (i:=4) (v:=.int .i64 b.n) rfl;have y5:=hb4.cell (i:=5) (v:=.slice oa ol oc) rfl;have yz:=hb4.lt;have hac:=acc_any w4 hE0.out i0 i4 i5 i3 i6 i8 hI4.h (by have:=hI4.m;omega) (by rw [hI4.n];decide) b oa oc oL (hxo.out.1.gr (g0.trans hI4.h.g)) hxo.out.2.2.1 hxo.out.2.2.2.1;rw [← hol.out] at hac;have z34:=hv.g.size;have z44:=g4.size;replace hac:=Lib.hid hac;replace hI4:=Lib.hid hI4;replace hb4:=Lib.hid hb4;replace hv:=Lib.hid hv;replace hr2:=Lib.hid hr2;replace hlt4:=Lib.hid hlt4;replace hw4:=Lib.hid hw4;go_upto_region 25 with fail
      rw [← hw4.out];go_wp2_with fail;refine hac.out.mono ?_;rintro e w5 ⟨V4,M4,L4,er2,rfl,hv2,hr3⟩;have hI5:=hI4.out.vc hv2;have hb5:=hb4.out.grx hv2.g (fun hm => hlt4.out _ hm rfl);have hlt5:∀ y ∈ vb :: (M4.own db ++ L4.own lb),y ≠ ob:=fun y hy => by
       rcases List.mem_cons.1 hy with rfl | hy
       ·exact hlt4.out _ List.mem_cons_self
       ·rcases hv2.o y hy with h | h
        ·exact hlt4.out y (List.mem_cons_of_mem _ h)
        ·omega
      obtain ⟨g2',rfl⟩:isErr E er2:=hr3.resolve_left (fun h => h.2 hI4.out.t);clear hr3 y0 y1 y2 y3 y4 y5 yz;have y0:=hb5.cell (i:=0) (v:=.int .i64 kd) rfl;have y1:=hb5.cell (i:=1) (v:=.int .i64 tn) rfl;have y2:=hb5.cell (i:=2) (v:=.int .u64 kp) rfl;have y3:=hb5.cell (i:=3) (v:=.int .i64 b.r) rfl;have y4:=hb5.cell (i:=4) (v:=.int .i64 b.n) rfl;have y5:=hb5.cell (i:=5) (v:=.slice oa ol oc) rfl;have yz:=hb5.lt;have hcm:=clm_any w5 hE0.out i0 i4 i5 i3 i6 hI5.h (by have:=hI5.m;omega) (by rw [hI5.n];decide) b;have z55:=hv2.g.size;replace hcm:=Lib.hid hcm;replace hI5:=Lib.hid hI5;replace hb5:=Lib.hid hb5;replace hv2:=Lib.hid hv2;replace hlt5:=Lib.hid hlt5;go_wp2_with fail;refine hcm.out.mono ?_;rintro e w6 ⟨V5,M5,L5,qx,qy,er3,rfl,hv3,hr4⟩;obtain ⟨w7',hw7⟩:∃ w7',w7' = w6.alloc (.cells #[.int .i64 qx,.int .i64 qy] 23):=⟨_,rfl⟩
      have g7:Gr w6 w7':=by rw [hw7];exact (Gr.refl w6).alloc _
      have hI7':=(hI5.out.vc hv3).gr g7;have hb7:=(hb5.out.grx hv3.g (fun hm => hlt5.out _ hm rfl)).gr g7;obtain ⟨g3',rfl⟩:isErr E er3:=hr4.resolve_left (fun h => h.2 hI5.out.t);clear hr4 y0 y1 y2 y3 y4 y5 yz;have y0:=hb7.cell (i:=0) (v:=.int .i64 kd) rfl;have y1:=hb7.cell (i:=1) (v:=.int .i64 tn) rfl;have y2:=hb7.cell (i:=2) (v:=.int .u64 kp) rfl;have y3:=hb7.cell (i:=3) (v:=.int .i64 b.r) rfl;have y4:=hb7.cell (i:=4) (v:=.int .i64 b.n) rfl;have y5:=hb7.cell (i:=5) (v:=.slice oa ol oc) rfl;have yz:=hb7.lt;have hac2:=vaccepted_any w7' hI7'.h.v;rw [hI7'.s,← hsl.out] at hac2;have z76:=hv3.g.size;have z77:=g7.size;replace hac2:=Lib.hid hac2;replace hI7':=Lib.hid hI7';replace hb7:=Lib.hid hb7;replace hv3:=Lib.hid hv3;replace hw7:=Lib.hid hw7;go_upto_region 27 with fail
      rw [← hw7.out];go_wp2_with fail;refine hac2.out.mono ?_;rintro e w8 ⟨⟨a8,c8,L8,rfl,hE8,hM8,-,-⟩,g8⟩;obtain ⟨w9,hw9⟩:∃ w9,w9 = w8.alloc (.cells #[.int .i64 S.ar,.int .i64 S.an] 23):=⟨_,rfl⟩
      have g9:Gr w8 w9:=by rw [hw9];exact (Gr.refl w8).alloc _
      have hq9:Blk w9 w8.heap.size #[.int .i64 S.ar,.int .i64 S.an] 23:=by rw [hw9];exact Blk.new _ _ _
      have hI9:=(hI7'.out.gr g8).gr g9;have hb9:=(hb7.out.gr g8).gr g9;clear y0 y1 y2 y3 y4 y5 yz;have y0:=hb9.cell (i:=0) (v:=.int .i64 kd) rfl;have y1:=hb9.cell (i:=1) (v:=.int .i64 tn) rfl;have y2:=hb9.cell (i:=2) (v:=.int .u64 kp) rfl;have y3:=hb9.cell (i:=3) (v:=.int .i64 b.r) rfl;have y4:=hb9.cell (i:=4) (v:=.int .i64 b.n) rfl;have y5:=hb9.cell (i:=5) (v:=.slice oa ol oc) rfl;have yz:=hb9.lt;have hpm9:=fun w' (g:Gr w9 w') => promised_any w' (hI9.h.v.gr g)
      rw [hI9.s] at hpm9;have hsl9:=fun w' (g:Gr w9 w') => sameLedger_eq al a8 cl c8 Ll L8 w' ((hI9.l.gr g).mono (fun _ _ _ => trivial)) (((hM8.gr g9).gr g).mono (fun _ _ _ => trivial)) (by rw [show Ll.map (·.e) = S.l from hEl.out,show L8.map (·.e) = S.l from hE8]) (by have:=hm64.out;unfold maxLen;omega)
      rw [show Ll.length = sl from hLl.out,show L8.length = sl by rw [hsl.out,← hE8,List.length_map]] at hsl9;have t0:=hI9.p.cell (i:=0) (v:=.int .i64 S.pr) rfl;have t1:=hI9.p.cell (i:=1) (v:=.int .i64 S.pn) rfl;have t2:=hI9.q.cell (i:=0) (v:=.int .i64 S.ar) rfl;have t3:=hI9.q.cell (i:=1) (v:=.int .i64 S.an) rfl;have t4:=hq9.cell (i:=0) (v:=.int .i64 S.ar) rfl;have t5:=hq9.cell (i:=1) (v:=.int .i64 S.an) rfl;have tz1:=hI9.p.lt;have tz2:=hI9.q.lt;have tz3:=hq9.lt;have k0:=GrW.cell t0;have k1:=GrW.cell t1;have k2:=GrW.cell t2;have k3:=GrW.cell t3;have k4:=GrW.cell t4;have k5:=GrW.cell t5;have k6:=GrW.cell y3;have k7:=GrW.cell y4;have hIf:=hI9;have n1':=fun w => bal_neq S.pr S.pn S.pr S.pn w
      have n2':=fun w => bal_neq S.ar S.an S.ar S.an w
      rw [decide_eq_true ⟨rfl,rfl⟩] at n1' n2';replace hpm9:=Lib.hid hpm9;replace hsl9:=Lib.hid hsl9;replace hI9:=Lib.hid hI9;replace hIf:=Lib.hid hIf;replace hb9:=Lib.hid hb9;replace hq9:=Lib.hid hq9;replace hw9:=Lib.hid hw9;replace hE8:=Lib.hid hE8;replace hM8:=Lib.hid hM8;rcases hr2.out with ⟨rfl,hr5,hr6⟩ | ⟨g1',rfl⟩
      ·have n3':=fun w => bal_neq b.r b.n S.pr S.pn w
       rw [decide_eq_true ⟨hr5,hr6⟩] at n3';replace hr5:=Lib.hid hr5;replace hr6:=Lib.hid hr6;go_upto_region 28 with fail
       rw [← hw9.out];refine wp_region_grows (by kernel_rfl) (by kernel_rfl) ?_;repeat (any_goals (go_big_quiet_step (first | (with_reducible exact Calls.grows (hpm9.out _ (by exact GrW.gr _))) | (with_reducible exact Calls.grows (hsl9.out _ (by exact GrW.gr _))))))
       refine wpQuiet_nil ?_;intro wz hwq;have gz:=GrW.of hwq;clear hwq;have hIz:LostI w0 lo hi db lb vb p1 p2 S al Ll V5 M5 L5 (9000 * (k + 1)) wz:=((hIf.out.le (by omega)).gr gz)
       replace hIz:=Lib.hid hIz;go_wp2_with fail;go_roundw;case rel => exact ⟨k + 1,V5,M5,L5,by omega,by omega,by go_num,hIz⟩
       case measure => simp [intOf];omega
      ·go_upto_region 28 with fail
       rw [← hw9.out];refine wp_region_grows (by kernel_rfl) (by kernel_rfl) ?_;repeat (any_goals (go_big_quiet_step (first | (with_reducible exact Calls.grows (hpm9.out _ (by exact GrW.gr _))) | (with_reducible exact Calls.grows (hsl9.out _ (by exact GrW.gr _))))))
       refine wpQuiet_nil ?_;intro wz hwq;have gz:=GrW.of hwq;clear hwq;have hIz:LostI w0 lo hi db lb vb p1 p2 S al Ll V5 M5 L5 (9000 * (k + 1)) wz:=((hIf.out.le (by omega)).gr gz)
       replace hIz:=Lib.hid hIz;go_wp2_with fail;go_roundw;case rel => exact ⟨k + 1,V5,M5,L5,by omega,by omega,by go_num,hIz⟩
       case measure => simp [intOf];omega
    ·have hltd:decide ((k:Int) < n2) = false:=decide_eq_false (by omega);have hlt2:¬ (k:Int) < n2:=by omega
     have hop:=vopen_bad (E:=E) (g:=0) wr 0 (by decide) (open_lost w0 wr hE0.out hI.out.h.g i4 i5 hI.out.h.d hI.out.t (by rw [hI.out.n];decide));replace hop:Calls Tryz.prog 20 #[.pointer (some ⟨db,0,none⟩),.int .i64 0] wr fun q w' => q = .returned (.tuple #[.pointer none,lostE E])∧Gr wr w':=hop
     have he:=fun w => eql_same E 0 w
     have gE:=g0.trans hI.out.h.g;replace hop:=Lib.hid hop;go_wp2_with fail;refine hop.out.mono ?_;rintro e wz ⟨rfl,gz⟩;have e4:=(hE.out.gr (gE.trans gz)).c0 i4;go_wp2_with fail;go_ret;exact ⟨rfl,gE.trans gz⟩
end Go.Proofs.YteigofaccjaobaaGreatDoor
