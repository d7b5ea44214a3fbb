/- voter.state.done of an acceptance. Printed by gen_o8.py. -/
import Derived.Test.YteigofaccjaobaaGreatDoorKL12
namespace Go.Proofs.YteigofaccjaobaaGreatDoor
open Go.RowKit
theorem LedM.takeV {K:Nat→Prop} {w:World} {a:Option Addr} {L:List EntM} (h:LedM K w a L) (k:Nat):LedM K w a (L.take k):=by
 refine ⟨⟨fun i s hi => ?_,fun x hx hne => ?_⟩,fun x hx => h.2 x (List.mem_of_mem_take hx)⟩
 ·rw [List.getElem?_take] at hi;split at hi
  ·exact h.1.1 i s hi
  ·cases hi
 ·exact h.1.2 x hx (fun e => hne (by rw [e,List.take_nil]))
set_option maxRecDepth 100000 in
set_option maxHeartbeats 6400000 in
theorem done_a {G:List Nat} {E:Nat→Addr} {W:World} (w:World) (hE:EAt G E W) (gW:Gr W w) (i0:4 ∈ G) (a:Option Addr) (c:Nat) (s:VotS) (la:Option Addr) (lc:Nat) (L:List EntM) (hL:Ents L = s.l) (hM:LedM Any w la L) (hlc:s.l.length≤lc) (hl64:s.l.length≤64) (r m k:Nat) (t:List Ent) (hr:r≤1099511627776) (hm:m≤1099511627776) (hk:k≤s.l.length) (ht:ledF t = true) (hS:BytesAt w a (vrB [2,r,m,k] (some t))) (hcn:a = none→c = 0) :
 Calls Tryz.prog 45 #[.agg (stC s la s.l.length lc),.slice a (vrB [2,r,m,k] (some t)).length c] w fun e w' => ∃ a' c' L',e = .returned (.tuple #[.agg (stC {s with pr:=r,pn:=m,ar:=r,an:=m,l:=s.l.take k ++ t} a' (s.l.take k ++ t).length c'),.bool true])∧Ents L' = s.l.take k ++ t∧LedM (fun b => w.heap.size≤b) w' a' L'∧(a' = none→c' = 0)∧(s.l.take k ++ t).length≤c'∧c'≤maxLen∧Gr w w':=by
 obtain ⟨i36,hi,hz0,hz1,hz2⟩:=info_parts Tryz.infoEnt;have ht64:=(ledF_iff.1 ht).1;have hbt:=ledB_len ht;have hlen:(vrB [2,r,m,k] (some t)).length≤30000:=by
  have:=numsB_len (l:=[2,r,m,k]) (by simp;omega);have:=numB_6 (n:=(ledB t).length) (by omega);simp [vrB] at this ⊢;simp at *;omega
 have heq:vrB [2,r,m,k] (some t) = numB 2 ++ (numB r ++ (numB m ++ (numB k ++ (numB (ledB t).length ++ (ledB t ++ []))))):=by simp [vrB,numsB]
 rw [heq] at hlen hS ⊢;obtain ⟨n,hn⟩:∃ n,n = s.l.length:=⟨_,rfl⟩
 rw [← hn] at hlc hl64 hk ⊢;have hLn:L.length = n:=by rw [hn,← hL,List.length_map]
 obtain ⟨wa,hwa⟩:∃ wa,wa = w.alloc (.cells (stC s la n lc) 94):=⟨_,rfl⟩
 obtain ⟨w0,hw0⟩:∃ w0,w0 = wa.alloc (.cells #[.int .i64 0,.int .i64 0,.int .i64 0,.int .i64 0,.slice none 0 0,.int .i64 0] 94):=⟨_,rfl⟩
 have ga:Gr w wa:=by rw [hwa];exact (Gr.refl w).alloc _
 have gb:Gr wa w0:=by rw [hw0];exact (Gr.refl wa).alloc _
 have g0:=ga.trans gb;have hsa:wa.heap.size = w.heap.size + 1:=by rw [hwa];simp
 have hs0:Blk w0 w.heap.size (stC s la n lc) 94:=Blk.gr (by rw [hwa];exact Blk.new _ _ _) gb;have hb0:Blk w0 (w.heap.size + 1) #[.int .i64 0,.int .i64 0,.int .i64 0,.int .i64 0,.slice none 0 0,.int .i64 0] 94:=by rw [hw0,← hsa];exact Blk.new _ _ _
 have hz0':=hb0.lt;have hnr:=newReader_own w0 a c _ (hS.gr g0) hcn (by omega);clear hlen heq;obtain ⟨bl,hbl⟩:∃ bl,bl = (numB 2 ++ (numB r ++ (numB m ++ (numB k ++ (numB (ledB t).length ++ (ledB t ++ [])))))).length:=⟨_,rfl⟩
 rw [← hbl] at hnr ⊢;replace hbl:=Lib.hid hbl;replace hnr:=Lib.hid hnr;replace hS:=Lib.hid hS;replace hE:=Lib.hid hE;replace hL:=Lib.hid hL;replace hM:=Lib.hid hM;replace hn:=Lib.hid hn;replace hLn:=Lib.hid hLn;replace ht:=Lib.hid ht;go_enter Tryz.func45,Tryz.ntmps45;go_wp2_with fail;rw [← hwa,← hw0];refine hnr.out.mono ?_;rintro q w1 ⟨rb,rfl,hR,hrb,g1⟩;have hrl:rb < w1.heap.size:=by obtain ⟨_,_,hh,_⟩:=hR;exact hh.lt
 have hR1:RdR (fun b => w0.heap.size≤b∧b < w1.heap.size) w1 rb (numB 2 ++ (numB r ++ (numB m ++ (numB k ++ (numB (ledB t).length ++ (ledB t ++ [])))))):=⟨_,0,hR,List.drop_zero⟩
 obtain ⟨v1,hv1⟩:∃ v1,v1 = w1.alloc (.cells #[.pointer (some ⟨rb,0,none⟩),.bool false] 180):=⟨_,rfl⟩
 have gv1:Gr w1 v1:=by rw [hv1];exact (Gr.refl w1).alloc _
 have hRg:RgAt (fun b => w0.heap.size≤b∧b < w1.heap.size) v1 w1.heap.size rb (numB 2 ++ (numB r ++ (numB m ++ (numB k ++ (numB (ledB t).length ++ (ledB t ++ [])))))):=⟨by rw [hv1];exact Blk.new _ _ _,hR1.gr gv1,by omega⟩
 have hbv:=(hb0.gr g1).gr gv1;have hsv:=(hs0.gr g1).gr gv1;have zv1:=hRg.1.lt;have m1:=vnum_any v1 w1.heap.size rb 2 _ hRg (by omega);replace hR:=Lib.hid hR;replace hR1:=Lib.hid hR1;replace m1:=Lib.hid m1;replace hRg:=Lib.hid hRg;go_wp2_with fail;rw [← hv1];refine m1.out.mono ?_;rintro q w2 ⟨rfl,hRg2,g2⟩;have z2:=g2.size;have m2:=vballot_any w2 w1.heap.size rb r m _ hRg2 hr hm (fun b hb => by omega);replace m2:=Lib.hid m2;replace hRg2:=Lib.hid hRg2;go_wp2_with fail;refine m2.out.mono ?_;rintro q w3 ⟨rfl,hRg3,g3⟩;have z3:=g3.size;have g13:=g2.trans g3;have gw3:Gr w w3:=GrX.all ((g0.trans g1).trans gv1) g13 (fun x hx => by rw [List.mem_singleton.1 hx];omega);have hb3:=hbv.grx g13 (by simp;omega);have hs3:=hsv.grx g13 (by simp;omega);have d0:=hs3.cell (i:=0) (v:=.int .i64 s.pr) rfl;have d1:=hs3.cell (i:=1) (v:=.int .i64 s.pn) rfl;have d2:=hs3.cell (i:=2) (v:=.int .i64 s.ar) rfl;have d3:=hs3.cell (i:=3) (v:=.int .i64 s.an) rfl;have d4:=hs3.cell (i:=4) (v:=.slice la n lc) rfl;have d5:=hs3.cell (i:=5) (v:=.int .i64 s.cl) rfl;have u0:=hs3.free 0;have u1:=hs3.free 1;have u2:=hs3.free 2;have u3:=hs3.free 3;have u4:=hs3.free 4;have u5:=hs3.free 5;have zs3:=hs3.lt;replace hRg3:=Lib.hid hRg3;clear g13 g2 g3;obtain ⟨w4,hw4⟩:∃ w4,w4 = ((((w3.setCell ⟨w.heap.size,0,none⟩ (.int .i64 r)).setCell ⟨w.heap.size,1,none⟩ (.int .i64 m)).setCell ⟨w.heap.size,2,none⟩ (.int .i64 r)).setCell ⟨w.heap.size,3,none⟩ (.int .i64 m)):=⟨_,rfl⟩
 have g34:GrX [w.heap.size] w3 w4:=by rw [hw4];exact (((((GrX.refl [w.heap.size] w3).set (p:=⟨w.heap.size,0,none⟩) (.inl (by simp)) _).set (p:=⟨w.heap.size,1,none⟩) (.inl (by simp)) _).set (p:=⟨w.heap.size,2,none⟩) (.inl (by simp)) _).set (p:=⟨w.heap.size,3,none⟩) (.inl (by simp)) _)
 have hs4:Blk w4 w.heap.size #[.int .i64 r,.int .i64 m,.int .i64 r,.int .i64 m,.slice la n lc,.int .i64 s.cl] 94:=by rw [hw4];exact ((((hs3.set 0 (.int .i64 r)).set 1 (.int .i64 m)).set 2 (.int .i64 r)).set 3 (.int .i64 m))
 have hb4:=hb3.grx g34 (by simp);have hRg4:RgAt (fun b => w0.heap.size≤b∧b < w1.heap.size) w4 w1.heap.size rb (numB k ++ (numB (ledB t).length ++ (ledB t ++ []))):=⟨hRg3.out.1.grx g34 (by simp;omega),hRg3.out.2.1.grx g34 (by simp;omega) (fun b hb => by simp;omega),hRg3.out.2.2⟩
 have gw4:Gr w w4:=GrX.all gw3 g34 (fun x hx => by rw [List.mem_singleton.1 hx];exact Nat.le_refl _);have z34:=g34.size;have m4:=vnum_any w4 w1.heap.size rb k _ hRg4 (by omega);replace m4:=Lib.hid m4;go_wp2_with fail;rw [← hw4];replace hw4:=Lib.hid hw4;replace hRg4:=Lib.hid hRg4;clear g34 d0 u0 d1 u1 d2 u2 d3 u3 d4 u4 d5 u5;refine m4.out.mono ?_;rintro q w5 ⟨rfl,hRg5,g5⟩;have gw5:Gr w w5:=GrX.all gw4 g5 (fun x hx => by rw [List.mem_singleton.1 hx];omega);have z5:=g5.size;have m5:=vledger_any w5 (hE.out.gr gW) gw5 i0 w1.heap.size rb (by omega) t ht.out [] hRg5;obtain ⟨tn,htn⟩:∃ tn,tn = t.length:=⟨_,rfl⟩
 rw [← htn] at m5;replace m5:=Lib.hid m5;replace hRg5:=Lib.hid hRg5;go_wp2_with fail;refine m5.out.mono ?_;rintro q w6 ⟨a6,c6,LT,rfl,hLT,hMT,hcn6,hc61,hc62,hRg6,g6⟩;have gw6:Gr w w6:=GrX.all gw5 g6 (fun x hx => by rw [List.mem_singleton.1 hx];omega);have z6:=g6.size;have g46:=g5.trans g6;have hs6:=hs4.grx g46 (by simp;omega);have hb6:=hb4.grx g46 (by simp;omega);have zs6:=hs6.lt;have kb1:decide ((n:Int) < k) = false:=decide_eq_false (by omega);have kb2:¬ (n:Int) < k:=by omega
 replace hRg6:=Lib.hid hRg6;replace hMT:=Lib.hid hMT;replace hLT:=Lib.hid hLT;replace htn:=Lib.hid htn;clear g46 g5 g6;have d0:=hs6.cell (i:=0) (v:=.int .i64 r) rfl;have d1:=hs6.cell (i:=1) (v:=.int .i64 m) rfl;have d2:=hs6.cell (i:=2) (v:=.int .i64 r) rfl;have d3:=hs6.cell (i:=3) (v:=.int .i64 m) rfl;have d4:=hs6.cell (i:=4) (v:=.slice la n lc) rfl;have d5:=hs6.cell (i:=5) (v:=.int .i64 s.cl) rfl;have u0:=hs6.free 0;have u1:=hs6.free 1;have u2:=hs6.free 2;have u3:=hs6.free 3;have u4:=hs6.free 4;have u5:=hs6.free 5;have hTk:(L.take k).length = k:=by rw [List.length_take,hLn.out];omega
 have mc:=vcopied_any la lc (L.take k) w6 ((hM.out.gr gw6).takeV k) (by rw [hTk];omega);rw [show (Value.slice la (L.take k).length lc) = .slice la k lc by rw [hTk]] at mc;replace mc:=Lib.hid mc;replace hTk:=Lib.hid hTk;go_wp2_with fail;refine mc.out.mono ?_;rintro q w7 ⟨a7,c7,L7,rfl,hm7,hM7,hcn7,hc71,hc72,g7,ho7,hd7⟩;rw [hTk.out] at hc71 ⊢;have hL7:L7.length = k:=by have:=congrArg List.length hm7;rw [List.length_map,List.length_map,hTk.out] at this;exact this
 rw [hL7] at ho7 hd7;have htn64:tn≤64:=by rw [htn.out];exact ht64
 have hTl:LT.length = tn:=by rw [htn.out,← hLT.out,List.length_map]
 have hs7:=hs6.gr g7;have z7:=g7.size;have hsrc:RecsAt 10 EntM.cells w7 a6 LT:=(hMT.out.gr g7).1.1;have bl7:=owns_lt ho7;have ho7':w7.ownsRow w6.heap.size 73 10 (.slice a7 k c7) L7.length (L7.flatMap EntM.cells):=by rw [hL7];exact ho7
 replace hm7:=Lib.hid hm7;replace hM7:=Lib.hid hM7;replace hd7:=Lib.hid hd7;replace hs6':=Lib.hid hs6;replace bl7:=Lib.hid bl7;clear ho7 d0 u0 d1 u1 d2 u2 d3 u3 d4 u4 d5 u5;have d0:=hs7.cell (i:=0) (v:=.int .i64 r) rfl;have d1:=hs7.cell (i:=1) (v:=.int .i64 m) rfl;have d2:=hs7.cell (i:=2) (v:=.int .i64 r) rfl;have d3:=hs7.cell (i:=3) (v:=.int .i64 m) rfl;have d4:=hs7.cell (i:=4) (v:=.slice la n lc) rfl;have d5:=hs7.cell (i:=5) (v:=.int .i64 s.cl) rfl;have u0:=hs7.free 0;have u1:=hs7.free 1;have u2:=hs7.free 2;have u3:=hs7.free 3;have u4:=hs7.free 4;have u5:=hs7.free 5;have kb3:k + tn≤maxLen:=by unfold maxLen;omega
 go_wp2_with (at_builtin;refine wpList_append_recs (k:=10) (enc:=EntM.cells) rfl _ _ 38 rfl w6.heap.size 73 i36 _ 96 Tryz.underlying38 hi hz0 hz1 hz2 rfl (by decide) EntM.cells_len EntM.cells_one _ L7 rfl ho7' a6 c6 LT (by rw [hTl];rfl) hsrc hcn6 (by rw [hL7,hTl];exact kb3) (by rw [hL7,hTl];omega) g7.size ?_;intro v8 w8 hown8 hgr8;obtain ⟨a8,c8,e8,hr8,hn8,hB8⟩:=recs_of_owns EntM.cells_len hown8;have hcap8:=owns_cap hown8 e8;have hln8:(L7 ++ LT).length = k + tn:=(by rw [List.length_append,hL7,hTl]);rw [hln8] at e8 hcap8;subst e8;have g68:Gr w6 w8:=g7.grown hgr8 (fun x hx => (bl7.out x hx).2);have hs8:=hs6'.out.gr g68;have x0:=hs8.cell (i:=0) (v:=.int .i64 r) rfl;have x1:=hs8.cell (i:=1) (v:=.int .i64 m) rfl;have x2:=hs8.cell (i:=2) (v:=.int .i64 r) rfl;have x3:=hs8.cell (i:=3) (v:=.int .i64 m) rfl;have x4:=hs8.cell (i:=4) (v:=.slice la n lc) rfl;have x5:=hs8.cell (i:=5) (v:=.int .i64 s.cl) rfl;have y4:=hs8.free 4;have zs8:=hs8.lt);have hLF:LedM (fun b => w0.heap.size≤b) w8 a8 (L7 ++ LT):=by
  refine ⟨⟨hr8,fun x hx _ => by have:=hB8 x hx;omega⟩,fun x hx => ?_⟩;rcases List.mem_append.1 hx with hx | hx
  ·exact ((hM7.out.2 x hx).mono (fun b _ hb => by omega)).grown hgr8 (fun ad ha ht => hd7.out x hx ad ha ht)
  ·have o6:=hMT.out.2 x hx;exact ((o6.gr g7).mono (fun b _ hb => by omega)).grown hgr8 (fun ad ha ht e => by have:=(bl7.out _ e).2;have:=o6.1.1.lt ha ht;omega)
 have hEF:Ents (L7 ++ LT) = s.l.take k ++ t:=by
  have h1:Ents L7 = s.l.take k:=by rw [← hL.out,← List.map_take];exact hm7.out
  show (L7 ++ LT).map (·.e) = _;rw [List.map_append];exact congr (congrArg _ h1) hLT.out
 have hlF:(s.l.take k ++ t).length = k + tn:=by rw [← hEF,List.length_map,hln8]
 have hcF:k + tn≤c8∧c8≤maxLen:=hcap8;have hn8':a8 = none→c8 = 0:=hn8;replace hLF:=Lib.hid hLF;replace hEF:=Lib.hid hEF;replace hlF:=Lib.hid hlF;replace hcF:=Lib.hid hcF;replace hn8':=Lib.hid hn8';clear hr8 hB8 hgr8 hown8 hn8 hcap8 hln8 d0 u0 x0 d1 u1 x1 d2 u2 x2 d3 u3 x3 d4 u4 x4 d5 u5 x5 y4;obtain ⟨w9,hw9⟩:∃ w9,w9 = w8.setCell ⟨w.heap.size,4,none⟩ (.slice a8 (k + tn) c8):=⟨_,rfl⟩
 have g89:GrX [w.heap.size] w8 w9:=by rw [hw9];exact (GrX.refl [w.heap.size] w8).set (p:=⟨w.heap.size,4,none⟩) (.inl (by simp)) _
 have hs9:Blk w9 w.heap.size #[.int .i64 r,.int .i64 m,.int .i64 r,.int .i64 m,.slice a8 (k + tn) c8,.int .i64 s.cl] 94:=by rw [hw9];exact hs8.set 4 (.slice a8 (k + tn) c8)
 have hb8:=hb6.gr g68;have hb9:=hb8.grx g89 (by simp);have hRg8:=hRg6.out.gr g68;have hRg9:RgAt (fun b => w0.heap.size≤b∧b < w1.heap.size) w9 w1.heap.size rb []:=⟨hRg8.1.grx g89 (by simp;omega),hRg8.2.1.grx g89 (by simp;omega) (fun b hb => by simp;omega),hRg8.2.2⟩
 have gw9:Gr w w9:=GrX.all (gw6.trans g68) g89 (fun x hx => by rw [List.mem_singleton.1 hx];exact Nat.le_refl _);have hLF9:=hLF.out.grx g89 (fun y hy => by rw [List.mem_singleton.1 hy];omega);replace hLF9:=Lib.hid hLF9;have z89:=g89.size;have e0:=hs9.cell (i:=0) (v:=.int .i64 r) rfl;have e1:=hs9.cell (i:=1) (v:=.int .i64 m) rfl;have e2:=hs9.cell (i:=2) (v:=.int .i64 r) rfl;have e3:=hs9.cell (i:=3) (v:=.int .i64 m) rfl;have e4:=hs9.cell (i:=4) (v:=.slice a8 (k + tn) c8) rfl;have e5:=hs9.cell (i:=5) (v:=.int .i64 s.cl) rfl;have d0:=hb9.cell (i:=0) (v:=.int .i64 0) rfl;have d1:=hb9.cell (i:=1) (v:=.int .i64 0) rfl;have d2:=hb9.cell (i:=2) (v:=.int .i64 0) rfl;have d3:=hb9.cell (i:=3) (v:=.int .i64 0) rfl;have d4:=hb9.cell (i:=4) (v:=.slice none 0 0) rfl;have d5:=hb9.cell (i:=5) (v:=.int .i64 0) rfl;have u0:=hb9.free 0;have u1:=hb9.free 1;have u2:=hb9.free 2;have u3:=hb9.free 3;have u4:=hb9.free 4;have u5:=hb9.free 5;have zb9:=hb9.lt;rw [← hw9];replace hw9:=Lib.hid hw9;replace hRg9:=Lib.hid hRg9;replace hRg8:=Lib.hid hRg8;clear g89;go_region_held3 (fun w' => w'.cell? ⟨w.heap.size,0,none⟩ = some (.int .i64 r)∧w'.cell? ⟨w.heap.size,1,none⟩ = some (.int .i64 m)∧w'.cell? ⟨w.heap.size,2,none⟩ = some (.int .i64 r)∧w'.cell? ⟨w.heap.size,3,none⟩ = some (.int .i64 m)∧w'.cell? ⟨w.heap.size,4,none⟩ = some (.slice a8 (k + tn) c8)∧w'.cell? ⟨w.heap.size,5,none⟩ = some (.int .i64 s.cl)) (simp (maxDischargeDepth:=8) [go_sem, *])
  (first
   | (go_at_call 94;(with_reducible refine (vended_any _ _ rb (hRg9.out.gr ?hr)).mono ?_);(case hr => repeat (first | exact Gr.refl _ | refine Gr.alloc ?_ _ | refine Gr.drew ?_));rintro e wA ⟨rfl,gA⟩;have hsA:=hs9.gr (((Gr.refl w9).drew).trans gA);have x0:=hsA.cell (i:=0) (v:=.int .i64 r) rfl;have x1:=hsA.cell (i:=1) (v:=.int .i64 m) rfl;have x2:=hsA.cell (i:=2) (v:=.int .i64 r) rfl;have x3:=hsA.cell (i:=3) (v:=.int .i64 m) rfl;have x4:=hsA.cell (i:=4) (v:=.slice a8 (k + tn) c8) rfl;have x5:=hsA.cell (i:=5) (v:=.int .i64 s.cl) rfl;have sA:=gA.size;simp only [World.size_drew] at sA;have hbA:=hb9.gr (((Gr.refl w9).drew).trans gA);have y0:=hbA.cell (i:=0) (v:=.int .i64 0) rfl;have t0:=hbA.free 0;have y1:=hbA.cell (i:=1) (v:=.int .i64 0) rfl;have t1:=hbA.free 1;have y2:=hbA.cell (i:=2) (v:=.int .i64 0) rfl;have t2:=hbA.free 2;have y3:=hbA.cell (i:=3) (v:=.int .i64 0) rfl;have t3:=hbA.free 3;have y4:=hbA.cell (i:=4) (v:=.slice none 0 0) rfl;have t4:=hbA.free 4;have y5:=hbA.cell (i:=5) (v:=.int .i64 0) rfl;have t5:=hbA.free 5)
   | fail)
 have g9A:Gr w9 wA:=((Gr.refl w9).drew).trans gA;have hbA:=hb9.gr g9A;have hfb:=((((((hbA.set 0 (.int .i64 r)).set 1 (.int .i64 m)).set 2 (.int .i64 r)).set 3 (.int .i64 m)).set 4 (.slice a8 (k + tn) c8)).set 5 (.int .i64 s.cl))
 have gs:GrX [w.heap.size + 1] w9 ((((((wA.setCell ⟨w.heap.size + 1,0,none⟩ (.int .i64 r)).setCell ⟨w.heap.size + 1,1,none⟩ (.int .i64 m)).setCell ⟨w.heap.size + 1,2,none⟩ (.int .i64 r)).setCell ⟨w.heap.size + 1,3,none⟩ (.int .i64 m)).setCell ⟨w.heap.size + 1,4,none⟩ (.slice a8 (k + tn) c8)).setCell ⟨w.heap.size + 1,5,none⟩ (.int .i64 s.cl)):=(((((((g9A.x [w.heap.size + 1]).set (p:=⟨w.heap.size + 1,0,none⟩) (.inl (by simp)) _).set (p:=⟨w.heap.size + 1,1,none⟩) (.inl (by simp)) _).set (p:=⟨w.heap.size + 1,2,none⟩) (.inl (by simp)) _).set (p:=⟨w.heap.size + 1,3,none⟩) (.inl (by simp)) _).set (p:=⟨w.heap.size + 1,4,none⟩) (.inl (by simp)) _).set (p:=⟨w.heap.size + 1,5,none⟩) (.inl (by simp)) _)
 obtain ⟨wf,hwf⟩:∃ wf,wf = ((((((wA.setCell ⟨w.heap.size + 1,0,none⟩ (.int .i64 r)).setCell ⟨w.heap.size + 1,1,none⟩ (.int .i64 m)).setCell ⟨w.heap.size + 1,2,none⟩ (.int .i64 r)).setCell ⟨w.heap.size + 1,3,none⟩ (.int .i64 m)).setCell ⟨w.heap.size + 1,4,none⟩ (.slice a8 (k + tn) c8)).setCell ⟨w.heap.size + 1,5,none⟩ (.int .i64 s.cl)):=⟨_,rfl⟩
 rw [← hwf] at hfb gs ⊢;have hfin:Gr w wf:=GrX.all gw9 gs (fun x hx => by rw [List.mem_singleton.1 hx];omega);have hLFf:LedM (fun b => w.heap.size≤b) wf a8 (L7 ++ LT):=(hLF9.out.grx gs (fun y hy => by rw [List.mem_singleton.1 hy];omega)).mono (fun b _ hb => by omega);replace hfb:=Lib.hid hfb;clear gs hwf;go_wp2_with fail;refine bodyPost_ret (v:=.tuple #[.agg #[.int .i64 r,.int .i64 m,.int .i64 r,.int .i64 m,.slice a8 (k + tn) c8,.int .i64 s.cl],.bool true]) ?_ rfl ⟨a8,c8,L7 ++ LT,by rw [hlF.out],hEF.out,hLFf,hn8'.out,by rw [hlF.out];exact hcF.out.1,hcF.out.2,hfin⟩;exact (res_cell (b:=w.heap.size + 1) (t:=94) Tryz.results45 _ _ hfb.out rfl Tryz.underlying94 (by kernel_rfl)).trans rfl
theorem numsB_snoc (l:List Nat) (n:Nat):numsB (l ++ [n]) = numsB l ++ numB n:=by simp [numsB]
set_option maxRecDepth 100000 in
set_option maxHeartbeats 6400000 in
theorem sbytes_yes {K:Nat→Prop} {G:List Nat} {E:Nat→Addr} (w:World) (hE:EAt G E w) (i0:4 ∈ G) (s:VotS) (hs:s.ok) (la:Option Addr) (lc:Nat) (L:List EntM) (hL:Ents L = s.l) (hM:LedM K w la L) :
 Calls Tryz.prog 34 #[.agg (stC s la s.l.length lc)] w fun r w' => ∃ a c,r = .returned (.tuple #[.slice a (snapB s).length c,.nilIface])∧Own w w' a c (snapB s):=by
 have hlB:=snapB_len hs;obtain ⟨⟨h1,h2,h3,h4,h5⟩,hl⟩:=hs;have hl64:=(ledF_iff.1 hl).1;have hbt:=ledB_len hl;have hLn:L.length = s.l.length:=by rw [← hL,List.length_map]
 have how:=fun w0 (g:Gr w w0) => owrite_any w0 (hE.gr g) i0 la lc L (hM.gr g) (by omega)
 rw [hL,hLn] at how;have how2:∀ w0,Gr w w0→Calls Tryz.prog 40 #[.slice la s.l.length lc] w0 fun r w' => ∃ a' c',r = .returned (.tuple #[.slice a' (ledB s.l).length c',.nilIface])∧Own w0 w' a' c' (ledB s.l):=fun w0 g => (how w0 g).mono fun r w' hh => hh.1 hl
 obtain ⟨n,hn⟩:∃ n,n = s.l.length:=⟨_,rfl⟩
 obtain ⟨bl,hbl⟩:∃ bl,bl = (ledB s.l).length:=⟨_,rfl⟩
 obtain ⟨sl,hsl⟩:∃ sl,sl = (snapB s).length:=⟨_,rfl⟩
 rw [← hn,← hbl] at how2;rw [← hn,← hsl];rw [← hbl] at hbt;clear how;replace how2:=Lib.hid how2;replace hn:=Lib.hid hn;replace hbl:=Lib.hid hbl;replace hsl:=Lib.hid hsl;replace hE:=Lib.hid hE;replace hM:=Lib.hid hM;replace hL:=Lib.hid hL;replace hl:=Lib.hid hl;go_enter Tryz.func34,Tryz.ntmps34;go_wp2_with fail;refine (how2.out _ ((Gr.refl w).alloc _)).mono ?_;rintro q w2 ⟨a2,c2,rfl,ho2⟩;have g2:=ho2.2.2.2.2;have hb2:=(Blk.new w #[.int .i64 s.pr,.int .i64 s.pn,.int .i64 s.ar,.int .i64 s.an,.slice la n lc,.int .i64 s.cl] 94).gr g2;have gw2:Gr w w2:=((Gr.refl w).alloc _).trans g2;have d0:=hb2.cell (i:=0) (v:=.int .i64 s.pr) rfl;have d1:=hb2.cell (i:=1) (v:=.int .i64 s.pn) rfl;have d2:=hb2.cell (i:=2) (v:=.int .i64 s.ar) rfl;have d3:=hb2.cell (i:=3) (v:=.int .i64 s.an) rfl;have d4:=hb2.cell (i:=4) (v:=.slice la n lc) rfl;have d5:=hb2.cell (i:=5) (v:=.int .i64 s.cl) rfl;have zb2:=hb2.lt;have hnw:=newWriter_any w2;replace hnw:=Lib.hid hnw;replace ho2:=Lib.hid ho2;clear g2;go_wp2_with fail;refine hnw.out.mono ?_;rintro q w3 ⟨rfl,hW3⟩;have g3:=hW3.world;have hb3:=hb2.gr g3;have e0:=hb3.cell (i:=0) (v:=.int .i64 s.pr) rfl;have e1:=hb3.cell (i:=1) (v:=.int .i64 s.pn) rfl;have e2:=hb3.cell (i:=2) (v:=.int .i64 s.ar) rfl;have e3:=hb3.cell (i:=3) (v:=.int .i64 s.an) rfl;have e4:=hb3.cell (i:=4) (v:=.slice la n lc) rfl;have e5:=hb3.cell (i:=5) (v:=.int .i64 s.cl) rfl;have zb3:=hb3.lt;replace hW3:=Lib.hid hW3;go_wp2_with fail;obtain ⟨N5,hN5⟩:∃ N5,N5 = [s.pr,s.pn,s.ar,s.an,s.cl]:=⟨_,rfl⟩
 have h5l:N5.length = 5:=by rw [hN5];rfl
 have h5b:∀ x ∈ N5,x≤1099511627776:=by rw [hN5];simp;omega
 have h5c:∀ (k v:Nat),N5[k]? = some v→(#[.int .i64 s.pr,.int .i64 s.pn,.int .i64 s.ar,.int .i64 s.an,.int .i64 s.cl]:Array Value)[k]? = some (.int .i64 (v:Int)):=fun k v hv => by
  have h:=congrArg (Option.map fun x:Nat => Value.int .i64 (x:Int)) hv;rw [← List.getElem?_map,hN5] at h;have h2:(([s.pr,s.pn,s.ar,s.an,s.cl]:List Nat).map fun x:Nat => Value.int .i64 (x:Int)).toArray[k]? = some (.int .i64 (v:Int)):=by rw [List.getElem?_toArray];exact h
  exact h2
 have hsb:snapB s = numsB N5 ++ numB bl ++ ledB s.l:=by rw [hN5,hbl.out];unfold snapB;rw [List.append_assoc]
 replace hN5:=Lib.hid hN5;replace h5b:=Lib.hid h5b;replace h5c:=Lib.hid h5c;replace h5l:=Lib.hid h5l;replace hsb:=Lib.hid hsb;go_loopw [34] (fun kv wr => ∃ k:Nat,k≤5∧kv = .int .i64 k∧WrAt w2 wr w2.heap.size wr.heap.size (numsB (N5.take k))) (fun kv _ => 5 - (intOf kv).toNat);case atStart => exact ⟨0,by omega,rfl,hW3.out.full⟩
 case round =>
  obtain ⟨k,hk,rfl,hWr⟩:=hrel;have hlen:=numsB_len (l:=N5.take k) (fun n hn => h5b.out n (List.mem_of_mem_take hn));have hlen2:(N5.take k).length≤5:=by rw [List.length_take];omega
  by_cases hlt:k < 5
  ·have hlt2:(k:Int) < 5:=by omega
   obtain ⟨v,hv⟩:=get_some N5 k (by rw [h5l.out];exact hlt);have hix:=fun w => idx_run w Tryz.underlying153 hlt (h5c.out k v hv)
   have hv1:=h5b.out v (get_mem hv);have hnum:=num_any _ wr _ wr.heap.size _ v hWr (by omega) (by omega);have hsn:numsB (N5.take (k + 1)) = numsB (N5.take k) ++ numB v:=by rw [take_snoc hv,numsB_snoc]
   replace hWr:=Lib.hid hWr;replace hnum:=Lib.hid hnum;replace hsn:=Lib.hid hsn;clear hv;go_wp2_with fail;refine hnum.out.mono ?_;rintro r w4 ⟨rfl,hK⟩;go_wp2_with fail;go_roundw;case rel => exact ⟨k + 1,by omega,by go_num,by rw [hsn.out];exact hK.at⟩
   case measure => simp [intOf];omega
  ·obtain rfl:k = 5:=by omega
   have hh:N5.take 5 = N5:=List.take_of_length_le (by rw [h5l.out];exact Nat.le_refl _);rw [hh] at hWr hlen;have hlen3:N5.length = 5:=h5l.out;have g2r:Gr w2 wr:=hWr.world;have ho:=ho2.out.x.gr g2r;have hwb:Calls Tryz.prog 71 #[.pointer (some ⟨w2.heap.size,0,none⟩),.slice a2 bl c2] wr fun e w' => e = .returned (.tuple #[])∧WrAt w2 w' w2.heap.size w'.heap.size (snapB s):=by
    rw [hsb.out,hbl.out];exact wbytes_any w2 wr _ wr.heap.size (numsB N5) a2 c2 (ledB s.l) hWr (by omega) ho.2.1 ho.2.2.1 (fun x hx => .inl (ho2.out.lt hx)) (by rw [← hbl.out];omega)
   replace hwb:=Lib.hid hwb;replace hWr:=Lib.hid hWr;replace ho:=Lib.hid ho;go_wp2_with fail;refine hwb.out.mono ?_;rintro q w5 ⟨rfl,hW5⟩;have hdn:=done_any w2 w5 _ w5.heap.size _ hW5 (by omega);rw [← hsl.out] at hdn;replace hdn:=Lib.hid hdn;replace hW5:=Lib.hid hW5;go_wp2_with fail;refine hdn.out.mono ?_;rintro q w6 ⟨a6,c6,rfl,h6⟩;have hf:Own w w6 a6 c6 (snapB s):=h6.older (gw2.trans hW5.out.world);replace hf:=Lib.hid hf;replace h6:=Lib.hid h6;go_wp2_with fail;go_ret2;exact ⟨a6,c6,rfl,hf.out⟩
def natC (n:Nat):List Value:=[.int .i64 n]
theorem natC_len (n:Nat):(natC n).length = 1:=rfl
theorem nats_get {w:World} {a:Option Addr} {l:List Nat} (h:RecsAt 1 natC w a l) {k v:Nat} (hv:l[k]? = some v):∃ b off,a = some ⟨b,off,none⟩∧w.cell? ⟨b,off + k,none⟩ = some (.int .i64 v):=by
 obtain ⟨b,off,h1,-,h2⟩:=h k v hv;refine ⟨b,off,h1,?_⟩;have:=h2 0 (.int .i64 v) rfl
 rwa [Nat.mul_one,Nat.add_zero] at this
set_option maxRecDepth 100000 in
set_option maxHeartbeats 6400000 in
theorem record_no (w:World) (na:Option Addr) (nc:Nat) (l:List Nat) (hN:RecsAt 1 natC w na l) (hlb:∀ x ∈ l,x≤1099511627776) (hll:l.length≤4) :
 Calls Tryz.prog 37 #[.slice na l.length nc,.slice none 0 0,.bool false] w fun r w' => ∃ a c,r = .returned (.tuple #[.slice a (vrB l none).length c,.nilIface])∧Own w w' a c (vrB l none):=by
 have hnw:=newWriter_any w;obtain ⟨n,hn⟩:∃ n,n = l.length:=⟨_,rfl⟩
 obtain ⟨R,hR⟩:∃ R,R = vrB l none:=⟨_,rfl⟩
 obtain ⟨sl,hsl⟩:∃ sl,sl = R.length:=⟨_,rfl⟩
 rw [← hR,← hsl,← hn];rw [← hn] at hll;replace hnw:=Lib.hid hnw;replace hn:=Lib.hid hn;replace hR:=Lib.hid hR;replace hsl:=Lib.hid hsl;replace hN:=Lib.hid hN;replace hlb:=Lib.hid hlb;go_enter Tryz.func37,Tryz.ntmps37;go_wp2_with fail;refine hnw.out.mono ?_;rintro q w3 ⟨rfl,hW3⟩;replace hW3:=Lib.hid hW3;go_wp2_with fail;go_loopw [16] (fun kv wr => ∃ k:Nat,k≤n∧kv = .int .i64 k∧WrAt w wr w.heap.size wr.heap.size (numsB (l.take k))) (fun kv _ => n - (intOf kv).toNat);case atStart => exact ⟨0,by omega,rfl,hW3.out.full⟩
 case round =>
  obtain ⟨k,hk,rfl,hWr⟩:=hrel;have hlen:=numsB_len (l:=l.take k) (fun x hx => hlb.out x (List.mem_of_mem_take hx));have hlen2:(l.take k).length≤4:=by rw [List.length_take,← hn.out];omega
  by_cases hlt:k < n
  ·have hlt2:(k:Int) < n:=by omega
   have hltd:decide ((k:Int) < n) = true:=decide_eq_true hlt2;obtain ⟨v,hv⟩:=get_some l k (by rw [← hn.out];exact hlt);obtain ⟨nb,nof,rfl,hcell⟩:=nats_get (RecsAt.gr' hN.out hWr.world) hv;have hv1:=hlb.out v (get_mem hv);have hnum:=num_any _ wr _ wr.heap.size _ v hWr (by omega) (by omega);have hsn:numsB (l.take (k + 1)) = numsB (l.take k) ++ numB v:=by rw [take_snoc hv,numsB_snoc]
   replace hWr:=Lib.hid hWr;replace hnum:=Lib.hid hnum;replace hsn:=Lib.hid hsn;clear hv;go_wp2_with fail;refine hnum.out.mono ?_;rintro r w4 ⟨rfl,hK⟩;go_wp2_with fail;go_roundw;case rel => exact ⟨k + 1,by omega,by go_num,by rw [hsn.out];exact hK.at⟩
   case measure => simp [intOf];omega
  ·obtain rfl:k = n:=by omega
   have hltd:decide ((k:Int) < k) = false:=decide_eq_false (by omega);have hh:l.take k = l:=List.take_of_length_le (by rw [← hn.out];exact Nat.le_refl _);rw [hh] at hWr hlen;have hrb:R = numsB l:=by rw [hR.out];unfold vrB;rw [List.append_nil]
   rw [← hrb] at hWr;have hnl:l.length≤4:=by rw [← hn.out];exact hll
   have hrl:R.length≤30000:=by rw [hrb];omega
   obtain ⟨w5,hw5⟩:∃ w5,w5 = wr:=⟨_,rfl⟩
   rw [← hw5] at hWr ⊢;have hW5:=hWr;replace hrb:=Lib.hid hrb;clear hWr hw5;have hdn:=done_any w w5 _ w5.heap.size _ hW5 (by omega);rw [← hsl.out] at hdn;replace hdn:=Lib.hid hdn;replace hW5:=Lib.hid hW5;go_wp2_with fail;refine hdn.out.mono ?_;rintro q w6 ⟨a6,c6,rfl,h6⟩;have hf:Own w w6 a6 c6 R:=h6.older hW5.out.world;replace hf:=Lib.hid hf;replace h6:=Lib.hid h6;go_wp2_with fail;go_ret2;exact ⟨a6,c6,rfl,hf.out⟩
set_option maxRecDepth 100000 in
set_option maxHeartbeats 6400000 in
theorem record_led (w:World) {K:Nat→Prop} {G:List Nat} {E:Nat→Addr} (hE:EAt G E w) (i0:4 ∈ G) (t:List Ent) (ht:ledF t = true) (ta:Option Addr) (tc:Nat) (L:List EntM) (hL:Ents L = t) (hM:LedM K w ta L) (na:Option Addr) (nc:Nat) (l:List Nat) (hN:RecsAt 1 natC w na l) (hlb:∀ x ∈ l,x≤1099511627776) (hll:l.length≤4) :
 Calls Tryz.prog 37 #[.slice na l.length nc,.slice ta t.length tc,.bool true] w fun r w' => ∃ a c,r = .returned (.tuple #[.slice a (vrB l (some t)).length c,.nilIface])∧Own w w' a c (vrB l (some t)):=by
 have hl64:=(ledF_iff.1 ht).1;have hbt:=ledB_len ht;have hLn:L.length = t.length:=by rw [← hL,List.length_map]
 have how:=fun w0 (g:Gr w w0) => owrite_any w0 (hE.gr g) i0 ta tc L (hM.gr g) (by omega)
 rw [hL,hLn] at how;have how2:∀ w0,Gr w w0→Calls Tryz.prog 40 #[.slice ta t.length tc] w0 fun r w' => ∃ a' c',r = .returned (.tuple #[.slice a' (ledB t).length c',.nilIface])∧Own w0 w' a' c' (ledB t):=fun w0 g => (how w0 g).mono fun r w' hh => hh.1 ht
 obtain ⟨tn,htn⟩:∃ tn,tn = t.length:=⟨_,rfl⟩
 obtain ⟨bl,hbl⟩:∃ bl,bl = (ledB t).length:=⟨_,rfl⟩
 rw [← htn,← hbl] at how2;rw [← htn];rw [← hbl] at hbt;clear how;replace how2:=Lib.hid how2;replace htn:=Lib.hid htn;replace hbl:=Lib.hid hbl;replace hE:=Lib.hid hE;replace hM:=Lib.hid hM;replace hL:=Lib.hid hL;replace ht:=Lib.hid ht;have hnw:=newWriter_any w;obtain ⟨n,hn⟩:∃ n,n = l.length:=⟨_,rfl⟩
 obtain ⟨R,hR⟩:∃ R,R = vrB l (some t):=⟨_,rfl⟩
 obtain ⟨sl,hsl⟩:∃ sl,sl = R.length:=⟨_,rfl⟩
 rw [← hR,← hsl,← hn];rw [← hn] at hll;replace hnw:=Lib.hid hnw;replace hn:=Lib.hid hn;replace hR:=Lib.hid hR;replace hsl:=Lib.hid hsl;replace hN:=Lib.hid hN;replace hlb:=Lib.hid hlb;go_enter Tryz.func37,Tryz.ntmps37;go_wp2_with fail;refine hnw.out.mono ?_;rintro q w3 ⟨rfl,hW3⟩;replace hW3:=Lib.hid hW3;go_wp2_with fail;go_loopw [16] (fun kv wr => ∃ k:Nat,k≤n∧kv = .int .i64 k∧WrAt w wr w.heap.size wr.heap.size (numsB (l.take k))) (fun kv _ => n - (intOf kv).toNat);case atStart => exact ⟨0,by omega,rfl,hW3.out.full⟩
 case round =>
  obtain ⟨k,hk,rfl,hWr⟩:=hrel;have hlen:=numsB_len (l:=l.take k) (fun x hx => hlb.out x (List.mem_of_mem_take hx));have hlen2:(l.take k).length≤4:=by rw [List.length_take,← hn.out];omega
  by_cases hlt:k < n
  ·have hlt2:(k:Int) < n:=by omega
   have hltd:decide ((k:Int) < n) = true:=decide_eq_true hlt2;obtain ⟨v,hv⟩:=get_some l k (by rw [← hn.out];exact hlt);obtain ⟨nb,nof,rfl,hcell⟩:=nats_get (RecsAt.gr' hN.out hWr.world) hv;have hv1:=hlb.out v (get_mem hv);have hnum:=num_any _ wr _ wr.heap.size _ v hWr (by omega) (by omega);have hsn:numsB (l.take (k + 1)) = numsB (l.take k) ++ numB v:=by rw [take_snoc hv,numsB_snoc]
   replace hWr:=Lib.hid hWr;replace hnum:=Lib.hid hnum;replace hsn:=Lib.hid hsn;clear hv;go_wp2_with fail;refine hnum.out.mono ?_;rintro r w4 ⟨rfl,hK⟩;go_wp2_with fail;go_roundw;case rel => exact ⟨k + 1,by omega,by go_num,by rw [hsn.out];exact hK.at⟩
   case measure => simp [intOf];omega
  ·obtain rfl:k = n:=by omega
   have hltd:decide ((k:Int) < k) = false:=decide_eq_false (by omega);have hh:l.take k = l:=List.take_of_length_le (by rw [← hn.out];exact Nat.le_refl _);rw [hh] at hWr hlen;have hrb:R = numsB l ++ numB bl ++ ledB t:=by rw [hR.out,hbl.out];unfold vrB;rw [List.append_assoc]
   have gr:=hWr.world;have hWk:=fun w5 (g:Gr wr w5) => (hWr.gr g).full
   have hnl:l.length≤4:=by rw [← hn.out];exact hll
   replace hWr:=Lib.hid hWr;replace hWk:=Lib.hid hWk;replace hrb:=Lib.hid hrb;go_wp2_with fail;refine (how2.out _ gr).mono ?_;rintro q w4 ⟨a2,c2,rfl,ho⟩;have hWr4:=hWr.out.gr ho.2.2.2.2;have hwb:Calls Tryz.prog 71 #[.pointer (some ⟨w.heap.size,0,none⟩),.slice a2 bl c2] w4 fun e w' => e = .returned (.tuple #[])∧WrAt w w' w.heap.size w'.heap.size R:=by
    rw [hrb.out,hbl.out];exact wbytes_any w w4 _ wr.heap.size (numsB l) a2 c2 (ledB t) hWr4 (by omega) ho.2.1 ho.2.2.1 (fun x hx => .inr ⟨ho.2.2.2.1 x hx,ho.lt hx⟩) (by rw [← hbl.out];omega)
   replace hwb:=Lib.hid hwb;replace hWr4:=Lib.hid hWr4;replace ho:=Lib.hid ho;have hrl:R.length≤30000:=by
    rw [hrb.out];simp only [List.length_append];have:=numB_6 (n:=bl) (by omega);rw [← hbl.out];omega
   go_wp2_with fail;refine hwb.out.mono ?_;rintro q w5 ⟨rfl,hW5⟩;have hdn:=done_any w w5 _ w5.heap.size _ hW5 (by omega);rw [← hsl.out] at hdn;replace hdn:=Lib.hid hdn;replace hW5:=Lib.hid hW5;go_wp2_with fail;refine hdn.out.mono ?_;rintro q w6 ⟨a6,c6,rfl,h6⟩;have hf:Own w w6 a6 c6 R:=h6.older hW5.out.world;replace hf:=Lib.hid hf;replace h6:=Lib.hid h6;go_wp2_with fail;go_ret2;exact ⟨a6,c6,rfl,hf.out⟩
structure LogV where
 s:Bool
 g:Nat
 e:Nat
 rs:List Rc
structure LogM where
 s:Bool
 g:Nat
 e:Nat
 R:List RcM
 ra:Option Addr
 rc:Nat
def LogM.rs (L:LogM):List Rc:=L.R.map (·.r)
def LogM.v (L:LogM):LogV:=⟨L.s,L.g,L.e,L.rs⟩
theorem LogM.rs_len (L:LogM):L.rs.length = L.R.length:=List.length_map ..
abbrev logC (db f n u:Nat) (ra:Option Addr) (k rc g e:Nat):Array Value:=#[.pointer (some ⟨db,0,none⟩),.int .i64 f,.int .i64 n,.int .i64 u,.slice ra k rc,.int .i64 g,.int .i64 e]
def LogM.own (L:LogM) (lb:Nat):List Nat:=lb :: (L.ra.map (·.block)).toList
structure LogOk (d:DskV) (v:LogV):Prop where
 u:usedR v.rs≤halfD d
 n:1≤v.rs.length
 g:v.g≤1099511627776
 e:v.e≤1099511627776
 r:RcsOk v.rs
 f:∀ r ∈ v.rs,r.g = v.g∧r.e≤v.e
structure LogAt (W w:World) (lb db:Nat) (d:DskV) (L:LogM):Prop where
 b:Blk w lb (logC db (firstD d L.s) (halfD d) (usedR L.rs) L.ra L.R.length L.rc L.g L.e) 164
 r:RowAt W w L.ra L.rc L.R
 lo:W.heap.size≤lb
 ok:LogOk d L.v
theorem LogOk.len {d:DskV} {v:LogV} (h:LogOk d v):v.rs.length≤halfD d:=Nat.le_trans (usedR_ge _) h.u
theorem LogAt.grx {S:List Nat} {W w w':World} {lb db:Nat} {d:DskV} {L:LogM} (h:LogAt W w lb db d L) (g:GrX S w w') (h1:∀ b ∈ L.own lb,b ∉ S) (h2:∀ x ∈ L.R,∀ y,x.a = some y→y.block ∉ S):LogAt W w' lb db d L :=
 ⟨h.b.grx g (h1 lb (by simp [LogM.own])),h.r.grx g (fun x hx => h1 x.block (by simp [LogM.own,hx])) h2,h.lo,h.ok⟩
theorem LogAt.gr {W w w':World} {lb db:Nat} {d:DskV} {L:LogM} (h:LogAt W w lb db d L) (g:Gr w w'):LogAt W w' lb db d L:=h.grx (S:=[]) (g.x []) (fun _ _ hb => by cases hb) (fun _ _ _ _ hb => by cases hb)
theorem LogAt.lt {W w:World} {lb db:Nat} {d:DskV} {L:LogM} (h:LogAt W w lb db d L):∀ b ∈ L.own lb,b < w.heap.size:=fun b hb => by
 rcases List.mem_cons.1 hb with rfl | hb
 ·exact h.b.lt
 cases hc:L.ra with
 | none => rw [hc] at hb;cases hb
 | some a =>
  rw [hc] at hb;rw [List.mem_singleton.1 (show b ∈ [a.block] from hb)];exact (h.r.lo a hc).2
theorem LogAt.ge {W w:World} {lb db:Nat} {d:DskV} {L:LogM} (h:LogAt W w lb db d L):∀ b ∈ L.own lb,W.heap.size≤b:=fun b hb => by
 rcases List.mem_cons.1 hb with rfl | hb
 ·exact h.lo
 cases hc:L.ra with
 | none => rw [hc] at hb;cases hb
 | some a =>
  rw [hc] at hb;rw [List.mem_singleton.1 (show b ∈ [a.block] from hb)];exact (h.r.lo a hc).1
theorem blk_apart {w:World} {b:Nat} {cs:Array Value} {t:TypeId} {db:Nat} {M:DskM} (hb:Blk w b cs t) (h:DskAt w db M) (he1:t ≠ 89) (he2:146 ≠ t):b ∉ M.own db:=fun hm => by
 rcases List.mem_cons.1 hm with rfl | hm
 ·have h1:=h.b;unfold Blk at h1 hb;rw [h1] at hb;injection hb with hb
  injection hb with _ h5 _
  exact he1 h5.symm
 rcases List.mem_cons.1 hm with rfl | hm
 ·obtain ⟨es,clock,hs,_⟩:=h.s;unfold Blk at hb;rw [hs] at hb;cases hb
 ·cases hc:M.ca with
  | none => rw [hc] at hm;cases hm
  | some q =>
   rw [hc] at hm;have hq:b = q.block:=List.mem_singleton.1 (show b ∈ [q.block] from hm);have h2:=h.c;rw [hc] at h2;exact owns_blk h2 hb he2 (by rw [hq];rfl)
theorem LogAt.away {W w:World} {lb db:Nat} {d:DskV} {L:LogM} {M:DskM} (h:LogAt W w lb db d L) (hD:DskAt w db M):∀ b ∈ L.own lb,b ∉ M.own db:=fun b hb => by
 rcases List.mem_cons.1 hb with rfl | hb
 ·exact blk_apart h.b hD (by decide) (by decide)
 cases hc:L.ra with
 | none => rw [hc] at hb;cases hb
 | some a =>
  rw [hc] at hb;rw [List.mem_singleton.1 (show b ∈ [a.block] from hb)];exact own_apart h.r.o hD (by decide) (by decide) a.block (own_blk hc)
theorem LogAt.data {W w:World} {lb db:Nat} {d:DskV} {L:LogM} {M:DskM} (h:LogAt W w lb db d L) (hD:DskAt w db M):∀ x ∈ L.R,∀ y,x.a = some y→y.block ∉ M.own db:=fun x hx y hy => own_apart (h.r.d x hx).1 hD (by decide) (by decide) y.block (own_blk hy)
abbrev goneE (E:Nat→Addr):Value:=.iface 297 (.pointer (some (E 7)))
def eV (E:Nat→Addr):Nat→Value
 | 1 => numE E
 | 5 => goneE E
 | 7 => fullE E
 | 8 => largeE E
 | 9 => lostE E
 | _ => .nilIface
structure LogP (W:World) (db lb:Nat) (d:DskV) (v:LogV) (M M':DskM) (L L':LogM) (w w':World):Prop where
 d:M'.d = d
 v:L'.v = v
 m:M'.m + M'.d.C.length≤M.m + M.d.C.length + 600
 dk:DskAt w' db M'
 lg:LogAt W w' lb db M'.d L'
 g:GrX (M.own db ++ L.own lb) w w'
 o:∀ b ∈ M'.own db ++ L'.own lb,b ∈ M.own db ++ L.own lb ∨ w.heap.size≤b
theorem LogP.refl {W w w':World} {db lb:Nat} {M:DskM} {L:LogM} (hD:DskAt w db M) (hL:LogAt W w lb db M.d L) (g:Gr w w'):LogP W db lb M.d L.v M M L L w w' :=
 ⟨rfl,rfl,by omega,hD.gr g,hL.gr g,g.x _,fun _ hb => .inl hb⟩
theorem LogOk.same {d d':DskV} {v:LogV} (h:LogOk d v) (hn:d'.n = d.n):LogOk d' v:=⟨by unfold halfD;rw [hn];exact h.u,h.n,h.g,h.e,h.r,h.f⟩
theorem LogAt.same {W w:World} {lb db:Nat} {d d':DskV} {L:LogM} (h:LogAt W w lb db d L) (hn:d'.n = d.n):LogAt W w lb db d' L :=
 ⟨by have:=h.b;unfold firstD halfD at this ⊢;rw [hn];exact this,h.r,h.lo,h.ok.same hn⟩
theorem DskP.log {W:World} {db lb:Nat} {d:DskV} {M M':DskM} {L:LogM} {w w':World} (hD:DskAt w db M) (hL:LogAt W w lb db M.d L) (h:DskP db d M M' w w') (hn:d.n = M.d.n) (hm:M'.m + M'.d.C.length≤M.m + M.d.C.length + 600):LogP W db lb d L.v M M' L L w w' :=
 ⟨h.1,rfl,hm,h.2.1,(hL.grx h.2.2.1 (hL.away hD) (hL.data hD)).same (by rw [h.1,hn]),h.2.2.1.mono (fun x hx => List.mem_append_left _ hx),fun b hb => by
  rcases List.mem_append.1 hb with hb | hb
  ·exact (h.2.2.2 b hb).imp (List.mem_append_left _) id
  ·exact .inl (List.mem_append_right _ hb)⟩
def syncE (d:DskV):Nat:=if d.lost = true then 9 else 0
def syncD (d:DskV):DskV:=if d.lost = true then d else d.flush
theorem sync_any {G:List Nat} {E:Nat→Addr} (W w:World) (hE:EAt G E w) (i4:0 ∈ G) {lb db:Nat} {M:DskM} {L:LogM} (hD:DskAt w db M) (h:LogAt W w lb db M.d L) (hC:M.m + M.d.C.length≤900000) :
 Calls Tryz.prog 85 #[.pointer (some ⟨lb,0,none⟩)] w fun q w' => ∃ M',q = .returned (eV E (syncE M.d))∧LogP W db lb (syncD M.d) L.v M M' L L w w':=by
 have c0:=h.b.cell (i:=0) (v:=.pointer (some ⟨db,0,none⟩)) rfl;have z:=h.b.lt;unfold syncE syncD;cases hl:M.d.lost with
 | true =>
  have hf:=dflush_no w hE i4 hD hl;rw [if_pos rfl,if_pos rfl];have hP:=LogP.refl hD h (Gr.refl w);replace hf:=Lib.hid hf;replace h:=Lib.hid h;replace hP:=Lib.hid hP;replace hl:=Lib.hid hl;go_enter Tryz.func85,Tryz.ntmps85;go_wp2_with fail;refine hf.out.mono ?_;rintro q w1 ⟨rfl,hw1⟩;subst w1;go_wp2_with fail;go_ret;exact ⟨M,rfl,hP.out⟩
 | false =>
  have hf:=dflush_any w hD hl (by omega) (by omega);rw [if_neg (by decide),if_neg (by decide)];replace hf:=Lib.hid hf;replace h:=Lib.hid h;replace hD:=Lib.hid hD;replace hl:=Lib.hid hl;go_enter Tryz.func85,Tryz.ntmps85;go_wp2_with fail;refine hf.out.mono ?_;rintro q w1 ⟨M1,rfl,hP,hm⟩;have hP2:=hP.log hD.out h.out rfl (by rw [hP.1];show M1.m + 0≤_;omega);replace hP2:=Lib.hid hP2;go_wp2_with fail;go_ret;exact ⟨M1,rfl,hP2.out⟩
end Go.Proofs.YteigofaccjaobaaGreatDoor
namespace Go.Proofs.YteigofaccjaobaaGreatDoor
section
variable {P:Program} {ops:Array Oper} {Q:Exit→Act→World→Prop} {md:Region.Mode} {S T:World→Prop}
def Closed (md:Region.Mode) (ops:Array Oper) (listed:Array Bool):Prop:=∀ (k:Nat) (o:Oper),ops[k]? = some o→listed.getD k false = true→∀ e ∈ o.after,Region.binds md e = true→listed.getD e.on false = true
theorem Closed.set {listed:Array Bool} {j:Nat} {oj:Oper} (h:Closed md ops listed) (hj:ops[j]? = some oj) (hall:∀ e ∈ oj.after,Region.binds md e = true→listed.getD e.on false = true):Closed md ops (listed.setIfInBounds j true):=fun k o hk hl e he hb => by
 by_cases hjk:j = k
 ·subst hjk;rw [hj] at hk;cases hk
  exact getD_set_true (hall e he hb)
 ·rw [getD_set_ne false hjk] at hl;exact getD_set_true (h k o hk hl e he hb)
def waitsIn (md:Region.Mode) (ops:Array Oper):Nat→Nat→Nat→Bool
 | 0,j,i => Region.waitsFor md ops j i
 | f + 1,j,i => Region.waitsFor md ops j i || (match ops[j]? with
  | some oj => oj.after.any fun e => Region.binds md e && waitsIn md ops f e.on i
  | none => false)
theorem waits_listed {listed:Array Bool} {j i:Nat} {oj:Oper} (h:Region.waitsFor md ops j i = true) (hoj:ops[j]? = some oj) (hall:∀ e ∈ oj.after,Region.binds md e = true→listed.getD e.on false = true):listed.getD i false = true:=by
 obtain ⟨oz,hoz,e,he,hb,hon⟩:=Region.waitsFor_spec h;rw [hoj] at hoz;cases hoz
 rw [← hon];exact hall e he hb
theorem waitsIn_listed {listed:Array Bool} (hcl:Closed md ops listed):∀ (f j i:Nat),waitsIn md ops f j i = true→∀ oj:Oper,ops[j]? = some oj→(∀ e ∈ oj.after,Region.binds md e = true→listed.getD e.on false = true)→listed.getD i false = true
 | 0,_,_,h,_,hoj,hall => waits_listed h hoj hall
 | f + 1,j,i,h,oj,hoj,hall => by
  unfold waitsIn at h;rw [Bool.or_eq_true] at h;rcases h with h | h
  ·exact waits_listed h hoj hall
  ·rw [hoj] at h;dsimp only at h;obtain ⟨e,he,hb⟩:=Array.any_eq_true'.1 h;rw [Bool.and_eq_true] at hb;have hm:=hall e he hb.1;obtain ⟨om,hom⟩:∃ om,ops[e.on]? = some om:=by
    cases hq:ops[e.on]? with
    | some om => exact ⟨om,rfl⟩
    | none =>
     have h2:=hb.2;cases f with
     | zero => unfold waitsIn Region.waitsFor at h2;rw [hq] at h2;cases h2
     | succ f => unfold waitsIn Region.waitsFor at h2;rw [hq] at h2;cases h2
   exact waitsIn_listed hcl f e.on i hb.2 om hom (fun e2 he2 hb2 => hcl e.on om hom hm e2 he2 hb2)
def closedB (md:Region.Mode) (ops:Array Oper) (listed:Array Bool):Bool:=(List.range ops.size).all fun k => match ops[k]? with
 | some o => !(listed.getD k false) || o.after.all fun e => !(Region.binds md e) || listed.getD e.on false
 | none => true
theorem closedB_spec {listed:Array Bool} (h:closedB md ops listed = true):Closed md ops listed:=fun k o hk hl e he hb => by
 unfold closedB at h;rw [List.all_eq_true] at h;have hlt:k < ops.size:=(Array.getElem?_eq_some_iff.1 hk).1;have h2:=h k (List.mem_range.2 hlt);rw [hk] at h2;dsimp only at h2;rw [hl,Bool.not_true,Bool.false_or] at h2;have h3:=Array.all_eq_true'.1 h2 e he;simpa [hb] using h3
theorem wpAnyX_firstD {z:List Nat} {i:Nat} {oi:Oper} {v:Value} (hi:ops[i]? = some oi) (hsel:∀ (j:Nat) (o:Oper) cs b,ops[j]? = some o→o.op ≠ .select cs b)
 (hiz:i ∉ z) (hQ:∀ c a w,Q (.panic c) (a.put oi.dst v) w→Q (.panic c) a w) (f0:Nat) (hz:(z.all fun k => waitsIn md ops f0 k i) = true) :
 ∀ (fuel:Nat) (listed:Array Bool) (a:Act) (w:World),
  (∀ j oj,ops[j]? = some oj→j ≠ i→listed.getD j true = false→(∀ e ∈ oj.after,Region.binds md e = true→e.on ≠ i)→oi.apart ops oj = true) →
  i ∈ Region.ready md ops listed→YieldsIf P ops (fun w => S w∧T w) oi v a→S w∧T w→noneZ z listed = true→Closed md ops listed →
  wpAnyX P md ops Q S T z fuel (listed.setIfInBounds i true) (a.put oi.dst v) w→wpAnyX P md ops Q S T z (fuel + 1) listed a w:=by
 intro fuel;induction fuel with
 | zero =>
  intro listed a w _ hr hy hS _ _ H;refine ⟨fun h => (by rw [h] at hr;cases hr),fun j hj => ?_⟩;by_cases hji:j = i
  ·subst hji;exact hy.wpOp hi hS ⟨⟨fun _ => hS.1,hS.2⟩,H⟩
  ·have:=ready_mono hj hji;rw [H.1] at this;cases this
 | succ fuel ih =>
  intro listed a w hfree hr hy hS hn hcl H;refine ⟨fun h => (by rw [h] at hr;cases hr),fun j hj => ?_⟩;by_cases hji:j = i
  ·subst hji;exact hy.wpOp hi hS ⟨⟨fun _ => hS.1,hS.2⟩,H⟩
  ·have h1:=H.2 j (ready_mono hj hji);obtain ⟨hjun,oj,hoj,hall⟩:=mem_ready.1 hj;have hnot:∀ e ∈ oj.after,Region.binds md e = true→e.on ≠ i:=fun e he hb heq => by
    have h1:=hall e he hb;have h0:=(mem_ready.1 hr).1;rw [heq] at h1;rcases Nat.lt_or_ge i listed.size with h' | h'
    ·simp [h'] at h0 h1;rw [h0] at h1;cases h1
    ·simp [Array.getElem?_eq_none h'] at h1
   have hjz:j ∉ z:=fun e => by
    have h3:=waitsIn_listed hcl f0 j i (List.all_eq_true.1 hz j e) oj hoj hall;have h0:=(mem_ready.1 hr).1;rcases Nat.lt_or_ge i listed.size with h' | h'
    ·simp [h'] at h0 h3;rw [h0] at h3;cases h3
    ·simp [Array.getElem?_eq_none h'] at h3
   have h2:=wpOp_putIf hoj (hfree j oj hoj hji hjun hnot) (fun cs b => hsel i oi cs b hi) (fun cs b => hsel j oj cs b hoj) hQ hy h1;have hfree':∀ k ok,ops[k]? = some ok→k ≠ i→(listed.setIfInBounds j true).getD k true = false →
    (∀ e ∈ ok.after,Region.binds md e = true→e.on ≠ i)→oi.apart ops ok = true:=fun k ok hk hki hun hno => by
    refine hfree k ok hk hki ?_ hno;by_cases hjk:j = k
    ·subst hjk;exact hjun
    ·rw [getD_set_ne true hjk] at hun;exact hun
   refine wpOp_mono (fun a' w' h3 => ?_) h2;have hc:noneZ z (listed.setIfInBounds j true) = true→S w':=fun h => h3.2.1.1 (by rw [Array.setIfInBounds_comm _ _ (Ne.symm hji)];exact noneZ_keep h hiz)
   refine ⟨⟨hc,h3.2.1.2⟩,ih (listed.setIfInBounds j true) a' w' hfree' (ready_mono hr (Ne.symm hji)) h3.1 ⟨hc (noneZ_keep hn hjz),h3.2.1.2⟩ (noneZ_keep hn hjz) (hcl.set hoj hall) ?_⟩;rw [Array.setIfInBounds_comm _ _ hji];exact h3.2.2
theorem wpAnyX_takeD {z:List Nat} {i:Nat} {oi:Oper} {v:Value} {fuel:Nat} {listed:Array Bool} {a:Act} {w:World} (f0:Nat) (hi:ops[i]? = some oi)
 (hs:Region.noSelect ops = true) (hf:Region.free md ops listed i = true) (hr:(Region.ready md ops listed).contains i = true) (hz:(z.all fun k => waitsIn md ops f0 k i) = true) (hn:noneZ z listed = true) (hcl:closedB md ops listed = true)
 (hiz:i ∉ z) (hQ:∀ c a w,Q (.panic c) (a.put oi.dst v) w→Q (.panic c) a w) (hw:Region.wanted oi (yielded ops a.tmps) = true) (hy:∀ w,S w∧T w→(execOp a.eval oi).run P w = .ok (.value v) w) (hS:S w∧T w)
 (h:wpAnyX P md ops Q S T z fuel (listed.setIfInBounds i true) (a.put oi.dst v) w):wpAnyX P md ops Q S T z (fuel + 1) listed a w :=
 wpAnyX_firstD hi (Region.noSelect_spec hs) hiz hQ f0 hz fuel listed a w (Region.free_spec hi hf) (by simpa using hr) (.inl ⟨hw,hy⟩) hS hn (closedB_spec hcl) h
end
end Go.Proofs.YteigofaccjaobaaGreatDoor
