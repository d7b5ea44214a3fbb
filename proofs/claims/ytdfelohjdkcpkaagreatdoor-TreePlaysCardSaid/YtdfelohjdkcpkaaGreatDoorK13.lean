/- tree.drained. Printed by gen_t16.py. -/
import Derived.Test.YtdfelohjdkcpkaaGreatDoorK12
namespace Go.Proofs.YtdfelohjdkcpkaaGreatDoor
open Go.RowKit
def DrnP (B:Nat) (W0 w:World) (tb:Nat) (T:TM) (p:Int) (e:Ending) (w':World):Prop:=e = .returned (.tuple #[])∧∃ T':TM,OutAt B w' tb T'∧T'.v = T.v.drained p∧T'.N = T.N∧Gr W0 w'∧GrX (T.ag.map (·.block)).toList w w'
def stayG (p m:Int) (g:Gh):Gh:=if g.par = p then {g with till:=max g.till m} else g
theorem stay_step {L:List Gh} {p m:Int} {i:Nat} {x:Gh} (hx:L[i]? = some x):((L.take i).map (stayG p m) ++ L.drop i).set i (stayG p m x) = (L.take (i + 1)).map (stayG p m) ++ L.drop (i + 1):=by
 have hi:=get_lt hx;have hl:((L.take i).map (stayG p m)).length = i:=by simp;omega
 rw [List.set_append,if_neg (by omega),hl,Nat.sub_self,take_snoc hx,List.map_append,List.append_assoc];congr 1;obtain ⟨h3,h4⟩:=List.getElem?_eq_some_iff.1 hx;rw [List.drop_eq_getElem_cons h3,h4];rfl
theorem stay_get {L:List Gh} {p m:Int} {i:Nat} {x:Gh} (hx:L[i]? = some x):((L.take i).map (stayG p m) ++ L.drop i)[i]? = some x:=by
 have hi:=get_lt hx;have hl:((L.take i).map (stayG p m)).length = i:=by simp;omega
 rw [List.getElem?_append_right (by omega),hl,Nat.sub_self,List.getElem?_drop];simpa using hx
theorem set_back {α:Type} {l:List α} {i:Nat} {x:α} (h:l[i]? = some x):l.set i x = l:=by
 apply List.ext_getElem?;intro j;rw [List.getElem?_set];by_cases hj:i = j
 ·subst hj;rw [if_pos rfl,if_pos (get_lt h),h]
 ·rw [if_neg hj]
set_option maxRecDepth 100000 in
set_option maxHeartbeats 6400000 in
theorem drained_any {G:List Nat} {E:Nat→Addr} (W0:World) (hE:EAt G E W0) (i0:9 ∈ G) (i1:11 ∈ G) (i3:6 ∈ G) (T:TM) (w:World) (tb B:Nat) (h:OutAt B w tb T) (hB0:W0.heap.size≤B) (g0:Gr W0 w) (hs:Srt T.N) (p:Int) (hn1:0≤T.now) (hn2:T.now≤1099511627776) :
 Calls Tryz.prog 164 #[.pointer (some ⟨tb,0,none⟩),.int .i64 p] w (DrnP B W0 w tb T p):=by
 have hsv:=server_any T p w h.any hs;have c0:=h.o.cell (i:=0) (v:=.slice T.an T.N.length T.cn) rfl;have c1:=h.o.cell (i:=1) (v:=.slice T.ag T.G.length T.cg) rfl;have c2:=h.o.cell (i:=2) (v:=.int .i64 T.last) rfl;have c3:=h.o.cell (i:=3) (v:=.int .i64 T.now) rfl;obtain ⟨L,hL⟩:∃ L,L = T.v.counted p:=⟨_,rfl⟩
 have hLl:L.length≤2000000:=by
  have h1:=cntN_len T.N p T.N.length;have h2:=cntG_len T.G p T.G.length;have h3:=h.t.l1;have h4:=h.t.l2;rw [hL,cnt_all,List.length_append];omega
 replace h:=Lib.hid h;replace hsv:=Lib.hid hsv;replace hs:=Lib.hid hs;replace hL:=Lib.hid hL;go_enter Tryz.func164,Tryz.ntmps164;go_wp2_with fail;refine hsv.out.mono ?_;rintro e w1 ⟨s,hsd,rfl,g1⟩;obtain ⟨w2,hw2⟩:∃ w2,w2 = w1.alloc (.cells #[.int .i64 s.k,.int .i64 s.q,.int .i64 s.t] 29):=⟨_,rfl⟩
 have g2:Gr w1 w2:=by rw [hw2];exact (Gr.refl w1).alloc _
 have hS2:Blk w2 w1.heap.size #[.int .i64 s.k,.int .i64 s.q,.int .i64 s.t] 29:=by rw [hw2];exact Blk.new w1 _ _
 have hz2:w2.heap.size = w1.heap.size + 1:=by rw [hw2];simp
 have h2:=(h.out.gr g1).gr g2;have gW2:=(g0.trans g1).trans g2;have gd:Gr w2 w2.drew:=(Gr.refl w2).drew;have hcn:=counted_any T p w2.drew ((h2.gr gd).any);rw [← hL.out] at hcn;clear c0 c1 c2 c3;have d0:=h2.o.cell (i:=0) (v:=.slice T.an T.N.length T.cn) rfl;have d1:=h2.o.cell (i:=1) (v:=.slice T.ag T.G.length T.cg) rfl;have d2:=h2.o.cell (i:=2) (v:=.int .i64 T.last) rfl;have d3:=h2.o.cell (i:=3) (v:=.int .i64 T.now) rfl;have b0:=hS2.cell (i:=0) (v:=.int .i64 s.k) rfl;have b1:=hS2.cell (i:=1) (v:=.int .i64 s.q) rfl;have b2:=hS2.cell (i:=2) (v:=.int .i64 s.t) rfl;replace hw2:=Lib.hid hw2;replace hS2:=Lib.hid hS2;replace h2:=Lib.hid h2;replace hcn:=Lib.hid hcn;replace hz2:=Lib.hid hz2;replace hsd:=Lib.hid hsd;have hsd2:s = (T.v.server p).getD rootS:=hsd.out;replace hsd2:=Lib.hid hsd2;cases hk:kidsErr s L with
 | some g =>
  have hdr:T.v.drained p = T.v:=by
   unfold TreeV.drained;dsimp only;rw [← hsd.out,← hL.out,hk,if_neg (by simp)]
  replace hdr:=Lib.hid hdr;replace hk:=Lib.hid hk;go_upto_region 1 with fail
  rw [← hw2.out];go_region_held3 (fun w' => w'.cell? ⟨tb,0,none⟩ = some (.slice T.an T.N.length T.cn)∧w'.cell? ⟨tb,1,none⟩ = some (.slice T.ag T.G.length T.cg)∧w'.cell? ⟨tb,2,none⟩ = some (.int .i64 T.last)∧w'.cell? ⟨tb,3,none⟩ = some (.int .i64 T.now)∧w'.cell? ⟨w1.heap.size,0,none⟩ = some (.int .i64 s.k)∧w'.cell? ⟨w1.heap.size,1,none⟩ = some (.int .i64 s.q)∧w'.cell? ⟨w1.heap.size,2,none⟩ = some (.int .i64 s.t)) (simp (maxDischargeDepth:=8) [go_sem, *])
   (first
    | (go_at_call 162;(with_reducible refine hcn.out.mono ?_);rintro e w3 ⟨a3,k3,rfl,hO3,g3⟩;have hT3:=(h2.out.gr gd).gr g3;have hS3:=(hS2.out.gr gd).gr g3;have e0:=hT3.o.cell (i:=0) (v:=.slice T.an T.N.length T.cn) rfl;have e1:=hT3.o.cell (i:=1) (v:=.slice T.ag T.G.length T.cg) rfl;have e2:=hT3.o.cell (i:=2) (v:=.int .i64 T.last) rfl;have e3:=hT3.o.cell (i:=3) (v:=.int .i64 T.now) rfl;have f0:=hS3.cell (i:=0) (v:=.int .i64 s.k) rfl;have f1:=hS3.cell (i:=1) (v:=.int .i64 s.q) rfl;have f2:=hS3.cell (i:=2) (v:=.int .i64 s.t) rfl;replace hT3:=Lib.hid hT3;replace hS3:=Lib.hid hS3;replace hO3:=Lib.hid hO3)
    | (go_at_call 168;(with_reducible refine (drain_no s a3 L k3 w3 (hE.gr ((gW2.trans gd).trans g3)) i0 i1 i3 (owns_srvs hO3.out) (by unfold maxLen;omega) hk.out).mono ?_);rintro e w4 ⟨rfl,g4⟩;have hT4:=hT3.out.gr g4;have hS4:=hS3.out.gr g4;have m0:=hT4.o.cell (i:=0) (v:=.slice T.an T.N.length T.cn) rfl;have m1:=hT4.o.cell (i:=1) (v:=.slice T.ag T.G.length T.cg) rfl;have m2:=hT4.o.cell (i:=2) (v:=.int .i64 T.last) rfl;have m3:=hT4.o.cell (i:=3) (v:=.int .i64 T.now) rfl;have n0:=hS4.cell (i:=0) (v:=.int .i64 s.k) rfl;have n1:=hS4.cell (i:=1) (v:=.int .i64 s.q) rfl;have n2:=hS4.cell (i:=2) (v:=.int .i64 s.t) rfl;replace hT4:=Lib.hid hT4;replace hS4:=Lib.hid hS4)
    | fail)
  clear d0 d1 d2 d3 e0 e1 e2 e3 m0 m1 m2 m3 b0 b1 b2 f0 f1 f2 n0 n1 n2;go_wp2_with fail;refine bodyPost_ret (results_none rfl _ _ _) rfl ?_;exact ⟨rfl,T,hT4.out,by rw [hdr.out],rfl,((gW2.trans gd).trans g3).trans g4,((((g1.trans g2).trans gd).trans g3).trans g4).x _⟩
 | none =>
  obtain ⟨dd,hdd⟩:∃ dd,dd = drainI s L:=⟨_,rfl⟩
  have hddl:dd≤4096:=by
   rw [hdd];unfold drainI;cases hf:(List.range 4096).find? (fun (k:Nat) => decide (reqsI L ((k:Int) + 1)≤givI (rowI s) ((k:Int) + 1))) with
   | none => simp
   | some n =>
    have:=List.mem_of_find?_eq_some hf;simp at this ⊢;omega
  have hdr:T.v.drained p = ⟨T.v.nodes,T.G.map (stayG p (T.now + dd)),T.last,T.now⟩:=by
   unfold TreeV.drained;dsimp only;rw [← hsd.out,← hL.out,hk,if_pos rfl,← hdd];rfl
  have hdm:=fun (w3:World) (a3:Option Addr) (k3:Nat) (gg:Gr W0 w3) (hl:SrvsAt w3 a3 L) => drain_min s a3 L k3 w3 (hE.gr gg) i0 i1 i3 hl (by unfold maxLen;omega) hk
  rw [← hdd] at hdm;replace hdr:=Lib.hid hdr;replace hk:=Lib.hid hk;replace hdd:=Lib.hid hdd;replace hdm:=Lib.hid hdm;go_upto_region 1 with fail
  rw [← hw2.out];go_region_held3 (fun w' => w'.cell? ⟨tb,0,none⟩ = some (.slice T.an T.N.length T.cn)∧w'.cell? ⟨tb,1,none⟩ = some (.slice T.ag T.G.length T.cg)∧w'.cell? ⟨tb,2,none⟩ = some (.int .i64 T.last)∧w'.cell? ⟨tb,3,none⟩ = some (.int .i64 T.now)∧w'.cell? ⟨w1.heap.size,0,none⟩ = some (.int .i64 s.k)∧w'.cell? ⟨w1.heap.size,1,none⟩ = some (.int .i64 s.q)∧w'.cell? ⟨w1.heap.size,2,none⟩ = some (.int .i64 s.t)) (simp (maxDischargeDepth:=8) [go_sem, *])
   (first
    | (go_at_call 162;(with_reducible refine hcn.out.mono ?_);rintro e w3 ⟨a3,k3,rfl,hO3,g3⟩;have hT3:=(h2.out.gr gd).gr g3;have hS3:=(hS2.out.gr gd).gr g3;have e0:=hT3.o.cell (i:=0) (v:=.slice T.an T.N.length T.cn) rfl;have e1:=hT3.o.cell (i:=1) (v:=.slice T.ag T.G.length T.cg) rfl;have e2:=hT3.o.cell (i:=2) (v:=.int .i64 T.last) rfl;have e3:=hT3.o.cell (i:=3) (v:=.int .i64 T.now) rfl;have f0:=hS3.cell (i:=0) (v:=.int .i64 s.k) rfl;have f1:=hS3.cell (i:=1) (v:=.int .i64 s.q) rfl;have f2:=hS3.cell (i:=2) (v:=.int .i64 s.t) rfl;replace hT3:=Lib.hid hT3;replace hS3:=Lib.hid hS3;replace hO3:=Lib.hid hO3)
    | (go_at_call 168;(with_reducible refine (hdm.out w3 a3 k3 ((gW2.trans gd).trans g3) (owns_srvs hO3.out)).mono ?_);rintro e w4 ⟨rfl,g4⟩;have hT4:=hT3.out.gr g4;have hS4:=hS3.out.gr g4;have m0:=hT4.o.cell (i:=0) (v:=.slice T.an T.N.length T.cn) rfl;have m1:=hT4.o.cell (i:=1) (v:=.slice T.ag T.G.length T.cg) rfl;have m2:=hT4.o.cell (i:=2) (v:=.int .i64 T.last) rfl;have m3:=hT4.o.cell (i:=3) (v:=.int .i64 T.now) rfl;have n0:=hS4.cell (i:=0) (v:=.int .i64 s.k) rfl;have n1:=hS4.cell (i:=1) (v:=.int .i64 s.q) rfl;have n2:=hS4.cell (i:=2) (v:=.int .i64 s.t) rfl;replace hT4:=Lib.hid hT4;replace hS4:=Lib.hid hS4)
    | fail)
  clear d0 d1 d2 d3 e0 e1 e2 e3 m0 m1 m2 m3 b0 b1 b2 f0 f1 f2 n0 n1 n2;have gW4:=((gW2.trans gd).trans g3).trans g4;have z1:=hT4.out.o.cell (i:=1) (v:=.slice T.ag T.G.length T.cg) rfl;go_wp2_with fail;clear z1;have hGl:=hT4.out.t.l2;go_loopw [35] (fun iv wr => ∃ i:Nat,i≤T.G.length∧iv = .int .i64 i∧Hid (OutAt B wr tb ⟨T.N,T.an,T.cn,(T.G.take i).map (stayG p (T.now + dd)) ++ T.G.drop i,T.ag,T.cg,T.last,T.now⟩)∧Gr W0 wr∧GrX (T.ag.map (·.block)).toList w wr) (fun iv _ => T.G.length - (intOf iv).toNat);case atStart => exact ⟨0,Nat.zero_le _,rfl,Lib.hid (by simpa using hT4.out),gW4,((((g1.trans g2).trans gd).trans g3).trans g4).x _⟩
  case round =>
   obtain ⟨i,hi,rfl,hT,hg,hgS⟩:=hrel;have hMl:((T.G.take i).map (stayG p (T.now + dd)) ++ T.G.drop i).length = T.G.length:=by simp;omega
   have hrow:=hT.out.o;dsimp only [TM.row] at hrow;rw [hMl] at hrow;have y1:=hrow.cell (i:=1) (v:=.slice T.ag T.G.length T.cg) rfl;have y3:=hrow.cell (i:=3) (v:=.int .i64 T.now) rfl;replace hrow:=Lib.hid hrow;by_cases hlt:i < T.G.length
   ·obtain ⟨x,hx⟩:=get_some T.G i hlt;have hxM:=stay_get (p:=p) (m:=T.now + dd) hx;obtain ⟨gb,hag⟩:∃ gb,T.ag = some ⟨gb,0,none⟩:=by
     rcases hT.out.t.g.2 with ⟨h1,h2⟩ | ⟨gb,cap,cur,h1,_⟩
     ·rw [show (TM.mk T.N T.an T.cn ((T.G.take i).map (stayG p (T.now + dd)) ++ T.G.drop i) T.ag T.cg T.last T.now).G.length = T.G.length from hMl] at h2;omega
     ·injection h1 with h1;exact ⟨gb,h1⟩
    obtain ⟨b3,off3,e3,hbl3,-,c0,c1,c2,c3,c4⟩:=gh_get hT.out.t.at.g hxM;dsimp only at e3;rw [hag] at e3 y1;cases e3
    simp only [Nat.zero_add] at c0 c1 c2 c3 c4;have hO:=hT.out.t.g;dsimp only at hO;rw [hag] at hO;have hgt:gb ≠ tb:=fun e => owns_blk hO hT.out.o (by decide) (by rw [e];rfl)
    have ff:∀ o,wr.frozen? ⟨gb,o,none⟩ = false:=fun o => by
     rcases hO.2 with ⟨h1,_⟩ | ⟨g',cap,cur,h1,_,hh,_⟩
     ·cases h1
     ·injection h1 with h1 _ _;cases h1;simp [World.frozen?,hh]
    have ti:(i:Int) < T.G.length:=by omega
    have hst:=stay_step (p:=p) (m:=T.now + dd) hx;replace hx:=Lib.hid hx;replace hxM:=Lib.hid hxM;replace hag:=Lib.hid hag;replace hO:=Lib.hid hO;replace hst:=Lib.hid hst;replace hMl:=Lib.hid hMl;obtain ⟨wo,rfl⟩:∃ wo:World,wo = wr:=⟨_,rfl⟩
    by_cases hp:x.par = p
    ·have tp:(x.par == p) = true:=by simpa using hp
     have hsx:stayG p (T.now + dd) x = ⟨x.par,x.srv,max x.till (T.now + dd)⟩:=by unfold stayG;rw [if_pos hp]
     replace hp:=Lib.hid hp;replace hsx:=Lib.hid hsx;go_upto_region 8 with fail
     have hwr:IntKind.i64.wrap (T.now + (dd:Int)) = T.now + dd:=by rw [IntKind.wrap_i64];omega
     refine wp_region_Z 14 (fun w' => w'.cell? ⟨gb,i * 5 + 4,none⟩ = some (.int .i64 x.till)∧w'.cell? ⟨tb,3,none⟩ = some (.int .i64 T.now)) (by kernel_rfl) ?_;have hS0:(fun w' => w'.cell? ⟨gb,i * 5 + 4,none⟩ = some (.int .i64 x.till)∧w'.cell? ⟨tb,3,none⟩ = some (.int .i64 T.now)) wo.drew:=by (dsimp only;simp (maxDischargeDepth:=8) [go_sem, *])
     refine wpAnyZ_take (i:=0) (v:=?v0) rfl (by kernel_rfl) (by kernel_rfl) (by kernel_rfl) (by kernel_rfl) (fun _ _ _ h => h) (by rfl) ?y0 hS0 ?r0;case y0 => (intro w hSw;(try dsimp only at hSw);go_simp;try with_reducible rfl)
     try simp only [Act.put,List.setIfInBounds_toArray]
     refine wpAnyZ_take (i:=1) (v:=?v1) rfl (by kernel_rfl) (by kernel_rfl) (by kernel_rfl) (by kernel_rfl) (fun _ _ _ h => h) (by rfl) ?y1 hS0 ?r1;case y1 => (intro w hSw;(try dsimp only at hSw);go_simp;try with_reducible rfl)
     try simp only [Act.put]
     refine wpAnyZ_take (i:=2) (v:=?v2) rfl (by kernel_rfl) (by kernel_rfl) (by kernel_rfl) (by kernel_rfl) (fun _ _ _ h => h) (by rfl) ?y2 hS0 ?r2;case y2 => (intro w hSw;(try dsimp only at hSw);go_simp;try with_reducible rfl)
     try simp only [Act.put]
     refine wpAnyZ_take (i:=3) (v:=?v3) rfl (by kernel_rfl) (by kernel_rfl) (by kernel_rfl) (by kernel_rfl) (fun _ _ _ h => h) (by rfl) ?y3 hS0 ?r3;case y3 => (intro w hSw;(try dsimp only at hSw);go_simp;try with_reducible rfl)
     try simp only [Act.put]
     refine wpAnyZ_take (i:=4) (v:=?v4) rfl (by kernel_rfl) (by kernel_rfl) (by kernel_rfl) (by kernel_rfl) (fun _ _ _ h => h) (by rfl) ?y4 hS0 ?r4;case y4 => (intro w hSw;(try dsimp only at hSw);go_simp;try with_reducible rfl)
     try simp only [Act.put]
     refine wpAnyZ_take (i:=5) (v:=?v5) rfl (by kernel_rfl) (by kernel_rfl) (by kernel_rfl) (by kernel_rfl) (fun _ _ _ h => h) (by rfl) ?y5 hS0 ?r5;case y5 => (intro w hSw;(try dsimp only at hSw);go_simp;try with_reducible rfl)
     try simp only [Act.put]
     refine wpAnyZ_take (i:=6) (v:=?v6) rfl (by kernel_rfl) (by kernel_rfl) (by kernel_rfl) (by kernel_rfl) (fun _ _ _ h => h) (by rfl) ?y6 hS0 ?r6;case y6 => (intro w hSw;(try dsimp only at hSw);go_simp;try with_reducible rfl)
     try simp only [Act.put]
     refine wpAnyZ_take (i:=7) (v:=?v7) rfl (by kernel_rfl) (by kernel_rfl) (by kernel_rfl) (by kernel_rfl) (fun _ _ _ h => h) (by rfl) ?y7 hS0 ?r7;case y7 => (intro w hSw;(try dsimp only at hSw);go_simp;try with_reducible rfl)
     try simp only [Act.put]
     refine wpAnyZ_take (i:=8) (v:=?v8) rfl (by kernel_rfl) (by kernel_rfl) (by kernel_rfl) (by kernel_rfl) (fun _ _ _ h => h) (by rfl) ?y8 hS0 ?r8;case y8 => (intro w hSw;(try dsimp only at hSw);go_simp;try with_reducible rfl)
     try simp only [Act.put]
     refine wpAnyZ_take (i:=9) (v:=?v9) rfl (by kernel_rfl) (by kernel_rfl) (by kernel_rfl) (by kernel_rfl) (fun _ _ _ h => h) (by rfl) ?y9 hS0 ?r9;case y9 => (intro w hSw;(try dsimp only at hSw);go_simp;try with_reducible rfl)
     try simp only [Act.put]
     refine wpAnyZ_take (i:=10) (v:=?v10) rfl (by kernel_rfl) (by kernel_rfl) (by kernel_rfl) (by kernel_rfl) (fun _ _ _ h => h) (by rfl) ?y10 hS0 ?r10;case y10 => (intro w hSw;(try dsimp only at hSw);go_simp;try with_reducible rfl)
     try simp only [Act.put]
     refine wpAnyZ_take (i:=11) (v:=?v11) rfl (by kernel_rfl) (by kernel_rfl) (by kernel_rfl) (by kernel_rfl) (fun _ _ _ h => h) (by rfl) ?y11 hS0 ?r11;case y11 => (intro w hSw;(try dsimp only at hSw);go_simp;try with_reducible rfl)
     try simp only [Act.put]
     refine wpAnyZ_one (i:=12) (by kernel_rfl) rfl (fun K hK => ?_);go_simp;refine hK.out _ _ (fun _ => hS0) ?_;clear hK K;try simp only [Act.put,List.setIfInBounds_toArray,List.set_cons_zero,List.set_cons_succ]
     refine wpAnyZ_one (i:=13) (by kernel_rfl) rfl (fun K hK => ?_);go_simp;refine hK.out _ _ (fun _ => hS0) ?_;clear hK K;try simp only [Act.put,List.setIfInBounds_toArray,List.set_cons_zero,List.set_cons_succ]
     clear hS0;refine wpAnyZ_one (i:=14) (by kernel_rfl) rfl (fun K hK => ?_);go_simp;refine hK.out _ _ (fun h => absurd rfl h) ?_;clear hK K;try simp only [Act.put,List.setIfInBounds_toArray,List.set_cons_zero,List.set_cons_succ]
     refine wpAnyZ_done (by kernel_rfl) ?_ _;refine NoPanic.normal ?_;have gx:GrX [gb] wo (wo.setCell ⟨gb,i * 5 + 4,none⟩ (.int .i64 (max x.till (T.now + dd)))).drew:=((GrX.refl _ _).set (.inl (by simp)) _).drew;have hO5:(wo.setCell ⟨gb,i * 5 + 4,none⟩ (.int .i64 (max x.till (T.now + dd)))).drew.ownsRow B 43 5 (.slice T.ag ((T.G.take (i + 1)).map (stayG p (T.now + dd)) ++ T.G.drop (i + 1)).length T.cg) ((T.G.take (i + 1)).map (stayG p (T.now + dd)) ++ T.G.drop (i + 1)).length (((T.G.take (i + 1)).map (stayG p (T.now + dd)) ++ T.G.drop (i + 1)).flatMap Gh.cells):=by
      have h1:=owns_gr (owns_set hO.out (i * 5 + 4) (.int .i64 (max x.till (T.now + dd)))) ((Gr.refl _).drew);rw [flat_set Gh.cells_len hxM.out (y:=stayG p (T.now + dd) x) (by decide) (by rw [hsx.out];rfl),hst.out] at h1;have h2:((T.G.take (i + 1)).map (stayG p (T.now + dd)) ++ T.G.drop (i + 1)).length = ((T.G.take i).map (stayG p (T.now + dd)) ++ T.G.drop i).length:=by rw [← hst.out,List.length_set]
      rw [h2,hag.out];exact h1
     have hM2:((T.G.take (i + 1)).map (stayG p (T.now + dd)) ++ T.G.drop (i + 1)).length = T.G.length:=by rw [← hst.out,List.length_set];exact hMl.out
     have hOT:OutAt B (wo.setCell ⟨gb,i * 5 + 4,none⟩ (.int .i64 (max x.till (T.now + dd)))).drew tb ⟨T.N,T.an,T.cn,(T.G.take (i + 1)).map (stayG p (T.now + dd)) ++ T.G.drop (i + 1),T.ag,T.cg,T.last,T.now⟩:=by
      refine ⟨?_,hT.out.t.ghosts gx (fun k hk hm => ?_) (fun y hy ad ha ht hm => ?_) _ _ hO5 (fun y hy ad ha ht => ?_) (by rw [hM2];exact hGl),hT.out.hB,hT.out.b⟩
      ·have h1:=hT.out.o.grx gx (by simpa using hgt.symm);dsimp only [TM.row] at h1 ⊢;rw [hM2];rw [hMl.out] at h1;exact h1
      ·rw [List.mem_singleton.1 hm] at hk;exact owns_apart hT.out.t.n hT.out.t.g (by decide) hk (by dsimp only;rw [hag.out];rfl)
      ·have:=hT.out.t.dg y hy ad ha ht;dsimp only at this;rw [hag.out,List.mem_singleton.1 hm] at this;exact this rfl
      ·have:=hT.out.t.dg y hy ad ha ht;dsimp only at this;rw [hag.out] at this;rw [hag.out];exact this
     have gW5:Gr W0 (wo.setCell ⟨gb,i * 5 + 4,none⟩ (.int .i64 (max x.till (T.now + dd)))).drew:=gx.all hg (fun y hy => by
      rw [List.mem_singleton.1 hy];have:=(owns_lt hO.out gb rfl).2;omega)
     have hgS2:GrX (T.ag.map (·.block)).toList w (wo.setCell ⟨gb,i * 5 + 4,none⟩ (.int .i64 (max x.till (T.now + dd)))).drew:=hgS.trans (by rw [hag.out];exact gx);replace hgS2:=Lib.hid hgS2;replace hOT:=Lib.hid hOT;replace gW5:=Lib.hid gW5;clear hO5 gx hwr;go_wp2_with fail;go_roundw;case rel => exact ⟨i + 1,by omega,by go_num,hOT,gW5.out,hgS2.out⟩
     case measure => simp [intOf];omega
    ·have tp:(x.par == p) = false:=by simpa using hp
     have hsx:stayG p (T.now + dd) x = x:=by unfold stayG;rw [if_neg hp]
     replace hp:=Lib.hid hp;replace hsx:=Lib.hid hsx;go_wp2_with fail;go_roundw;case rel => exact ⟨i + 1,by omega,by go_num,Lib.hid (by
      have h1:=hst.out;rw [hsx.out,set_back hxM.out] at h1;rw [← h1];exact hT.out),hg,hgS⟩
     case measure => simp [intOf];omega
   ·have hin:i = T.G.length:=by omega
    have ti:¬ (i:Int) < T.G.length:=by omega
    have tib:decide ((i:Int) < T.G.length) = false:=decide_eq_false ti;replace hin:=Lib.hid hin;go_wp2_with fail;go_end0;exact ⟨rfl,_,hT.out,by rw [hdr.out,hin.out,List.take_length,List.drop_length,List.append_nil],rfl,hg,hgS⟩
end Go.Proofs.YtdfelohjdkcpkaaGreatDoor
namespace Go.Proofs.YtdfelohjdkcpkaaGreatDoor
open Go.RowKit
def LseP (T:TM) (id:Int) (w:World) (e:Ending) (w':World):Prop:=Gr w w'∧((T.v.loose id ≠ 0∧e = .returned (.tuple #[.pointer none,.int .i64 (T.v.loose id)])) ∨ (T.v.loose id = 0∧∃ nb i x,T.an = some ⟨nb,0,none⟩∧T.N[i]? = some x∧x.e.id = id∧e = .returned (.tuple #[.pointer (some ⟨nb,i * 7,none⟩),.int .i64 0])))
theorem own_at {w:World} {B:Nat} {T:TM} (h:OwnT B w T) {i:Nat} {x:NdM} (hx:T.N[i]? = some x):∃ nb,T.an = some ⟨nb,0,none⟩:=by
 rcases h.n.2 with ⟨h1,h2⟩ | ⟨g,cap,cur,h1,_⟩
 ·have:=get_lt hx;omega
 ·injection h1 with h1;exact ⟨g,h1⟩
set_option maxRecDepth 100000 in
set_option maxHeartbeats 3200000 in
theorem loose_any (T:TM) (id:Int) (w:World) (tb B:Nat) (h:OutAt B w tb T) (hs:Srt T.N) :
 Calls Tryz.prog 165 #[.pointer (some ⟨tb,0,none⟩),.int .i64 id] w (LseP T id w):=by
 have hix:=index_any T id w h.any hs;have c0:=h.o.cell (i:=0) (v:=.slice T.an T.N.length T.cn) rfl;have c1:=h.o.cell (i:=1) (v:=.slice T.ag T.G.length T.cg) rfl;have c2:=h.o.cell (i:=2) (v:=.int .i64 T.last) rfl;have c3:=h.o.cell (i:=3) (v:=.int .i64 T.now) rfl;obtain ⟨L,hL⟩:∃ L,L = T.v.counted id:=⟨_,rfl⟩
 obtain ⟨Z,hZ⟩:∃ Z,Z = T.v.loose id:=⟨_,rfl⟩
 replace h:=Lib.hid h;replace hs:=Lib.hid hs;replace hix:=Lib.hid hix;replace hL:=Lib.hid hL;go_enter Tryz.func165,Tryz.ntmps165;go_wp2_with fail;refine hix.out.mono ?_;rintro e w1 ⟨i,b,rfl,g1,q1,q2⟩;have h1:=h.out.gr g1;clear c0 c1 c2 c3;have c0:=h1.o.cell (i:=0) (v:=.slice T.an T.N.length T.cn) rfl;have c1:=h1.o.cell (i:=1) (v:=.slice T.ag T.G.length T.cg) rfl;have c2:=h1.o.cell (i:=2) (v:=.int .i64 T.last) rfl;have c3:=h1.o.cell (i:=3) (v:=.int .i64 T.now) rfl;cases b with
 | false =>
  have hf:=find_no (q2 rfl);have hz1:Z = 1:=by rw [hZ];unfold TreeV.loose;rw [hf]
  replace hf:=Lib.hid hf;replace h1:=Lib.hid h1;clear q1 q2;replace hz1:=Lib.hid hz1;replace hZ:=Lib.hid hZ;go_wp2_with fail;go_ret2;exact ⟨g1,.inl ⟨by rw [← hZ.out,hz1.out];decide,by rw [← hZ.out,hz1.out];rfl⟩⟩
 | true =>
  obtain ⟨x,hx,hid⟩:=q1 rfl;have hf:=find_yes hs.out hx hid;obtain ⟨nb,hnb⟩:=own_at h1.t hx;replace hnb:=Lib.hid hnb;have hcn:=counted_any T id w1 h1.any;rw [← hL.out] at hcn;have tn:(i:Int) < T.N.length:=by have:=get_lt hx;omega
  have hl1:=h1.t.l1;clear q1 q2;by_cases hl:L = []
  ·have hz0:Z = 0:=by rw [hZ];unfold TreeV.loose;rw [hf];dsimp only;rw [if_neg (by rw [← hL.out,hl];simp)]
   have hl0:L.length = 0:=by rw [hl];rfl
   replace hf:=Lib.hid hf;replace hx:=Lib.hid hx;replace hid:=Lib.hid hid;replace hl:=Lib.hid hl;replace hz0:=Lib.hid hz0;replace hZ:=Lib.hid hZ;replace hcn:=Lib.hid hcn;go_wp2_with fail;refine hcn.out.mono ?_;rintro e w2 ⟨a3,k3,rfl,hO3,g2⟩;have p0:=(h1.gr g2).o.cell (i:=0) (v:=.slice T.an T.N.length T.cn) rfl;rw [hnb.out] at p0;replace h1:=Lib.hid h1;replace hO3:=Lib.hid hO3;clear c0 c1 c2 c3;go_wp2_with fail;go_ret2;exact ⟨g1.trans g2,.inr ⟨by rw [← hZ.out,hz0.out],nb,i,x,hnb.out,hx.out,hid.out,rfl⟩⟩
  ·have hz2:Z = 2:=by rw [hZ];unfold TreeV.loose;rw [hf];dsimp only;rw [if_pos (by rw [← hL.out];exact hl)]
   have hl0:(0:Int) < L.length:=by
    cases L with
    | nil => exact absurd rfl hl
    | cons y t => simp
   replace hf:=Lib.hid hf;replace hx:=Lib.hid hx;replace hid:=Lib.hid hid;replace hl:=Lib.hid hl;replace hz2:=Lib.hid hz2;replace hZ:=Lib.hid hZ;replace hcn:=Lib.hid hcn;go_wp2_with fail;refine hcn.out.mono ?_;rintro e w2 ⟨a3,k3,rfl,hO3,g2⟩;replace h1:=Lib.hid h1;replace hO3:=Lib.hid hO3;clear c0 c1 c2 c3;go_wp2_with fail;go_ret2;exact ⟨g1.trans g2,.inl ⟨by rw [← hZ.out,hz2.out];decide,by rw [← hZ.out,hz2.out];rfl⟩⟩
theorem step_append_one {α:Type} {k:Nat} {enc:α→List Value} {P:Program} {w:World} {ops:Array Oper} {o:Oper} {a:Act} {K:Act→World→Prop} {Q:Exit→Act→World→Prop} {E:Prop} (hgd:o.guard = none) (s x:Operand) (t:TypeId)
 (ho:o.op = .call { callee:=.builtin .append,args:=#[s,x],argTypes:=#[t,t] })
 (base:Nat) (e:TypeId) (i:TypeInfo) (z:Value) (bytes:Nat) (ht:P.underlying t = some (.slice e)) (hi:P.info? e = some i) (hz:i.zero = some z)
 (hsize:i.size = k) (hby:i.bytes = bytes) (hzs:z.cells.size = k) (hsz:0 < k)
 (hk:∀ s,(enc s).length = k) (h1:∀ s,∀ u ∈ enc s,u.oneCell' = true)
 (v:Value) (l0:List α) (hs:a.eval s = v) (hown:w.ownsRow base e k v l0.length (l0.flatMap enc))
 (B c:Nat) (y:α) (hx:a.eval x = .slice (some ⟨B,0,none⟩) 1 c) (hl:RecsAt k enc w (some ⟨B,0,none⟩) [y])
 (h63:l0.length + 1≤maxLen) (hbytes:(l0.length + 1) * bytes≤140737488355328) (hbase:base≤w.heap.size)
 (h:∀ v' w',w'.ownsRow base e k v' (l0 ++ [y]).length ((l0 ++ [y]).flatMap enc)→w.grownBy w' v.ownBlock→(v'.ownBlock = v.ownBlock ∨ v'.ownBlock = some w.heap.size)→K (a.put o.dst v') w') :
 if Region.wanted o (yielded ops a.tmps) = true then Oper.wp P o a w K Q else E:=by
 have hw:Region.wanted o (yielded ops a.tmps) = true:=by simp [Region.wanted,hgd]
 rw [if_pos hw];obtain ⟨v',w',hr,h2,h3,-,h5⟩:=run_append_own_at (P:=P) w base t o.type e i z k bytes ht hi hz hsize hby hzs hsz v l0.length (l0.flatMap enc) hown ⟨B,0,none⟩ 1 c (enc y) (by rw [hk,Nat.one_mul]) (fun j u hu => by
  obtain ⟨b,off,hh,_,hcell⟩:=hl 0 y rfl;cases hh
  have:=hcell j u hu;unfold Addr.add;split
  ·rename_i h0;rw [h0] at this;simpa using this
  ·simpa using this) (h1 y) h63 hbytes hbase
 unfold Oper.wp execOp;simp only [ho,resolve,invoke,builtin,Sem.run_bind,Sem.run_pure,Result.andThen_ok,List.map_toArray,List.map_cons,List.map_nil,hs,hx,hr];exact h v' w' (by simpa using h2) h3 h5
theorem own_snoc {B:Nat} {wz w':World} {T:TM} {x:NdM} {a:Option Addr} {c:Nat} (h:OwnT B wz T) (hN:w'.ownsRow B 39 7 (.slice a (T.N ++ [x]).length c) (T.N ++ [x]).length ((T.N ++ [x]).flatMap NdM.cells)) (hg:wz.grownBy w' (Value.slice T.an T.N.length T.cn).ownBlock) (hat:(Value.slice a (T.N ++ [x]).length c).ownBlock = (Value.slice T.an T.N.length T.cn).ownBlock ∨ (Value.slice a (T.N ++ [x]).length c).ownBlock = some wz.heap.size) (hx:x.e.tasks = []) (hxo:x.ok (fun b => B≤b) w') (hl:T.N.length + 1≤1000000) (l n:Int):OwnT B w' ⟨T.N ++ [x],a,c,T.G,T.ag,T.cg,l,n⟩:=by
 have gx:GrX (Value.slice T.an T.N.length T.cn).ownBlock.toList wz w':=⟨hg.os,hg.tape,hg.output,hg.size,fun k hk hn => hg.block k hk (fun e => hn (by rw [← e];simp))⟩
 have hin:∀ k,k ∈ (Value.slice T.an T.N.length T.cn).ownBlock.toList→(Value.slice T.an T.N.length T.cn).ownBlock = some k:=fun k hk => by simpa using hk
 refine ⟨hN,owns_gx h.g gx (fun k hk hm => owns_apart h.n h.g (by decide) (hin k hm) hk),fun y hy => ?_,fun y hy ad ha ht => ?_,fun y hy ad ha ht => ?_,fun y hy ad ha ht o => ?_,by simp;omega,h.l2⟩
 ·rcases List.mem_append.1 hy with hy | hy
  ·exact (h.k y hy).but gx (fun ad ha ht hm => h.d y hy ad ha ht (hin _ hm))
  ·rw [List.mem_singleton.1 hy];exact hxo
 ·rcases List.mem_append.1 hy with hy | hy
  ·rcases hat with h1 | h1
   ·show (Value.slice a (T.N ++ [x]).length c).ownBlock ≠ _;rw [h1];exact h.d y hy ad ha ht
   ·show (Value.slice a (T.N ++ [x]).length c).ownBlock ≠ _;rw [h1];intro e;have:=Option.some.inj e;have:=(h.k y hy).1.1.lt ha ht;omega
  ·rw [List.mem_singleton.1 hy] at ht;exact absurd hx ht
 ·rcases List.mem_append.1 hy with hy | hy
  ·exact h.dg y hy ad ha ht
  ·rw [List.mem_singleton.1 hy] at ht;exact absurd hx ht
 ·rcases List.mem_append.1 hy with hy | hy
  ·rw [gx.frozen ((h.k y hy).1.1.lt ha ht) (fun hm => h.d y hy ad ha ht (hin _ hm))];exact h.f y hy ad ha ht o
  ·rw [List.mem_singleton.1 hy] at ht;exact absurd hx ht
theorem srt_snoc {N:List NdM} {x:NdM} (hs:Srt N) (h:∀ y ∈ N,y.e.id < x.e.id):Srt (N ++ [x]):=by
 intro i j y z hi hj hij;have hjl:=get_lt hj;rw [List.length_append] at hjl;have h1:i < N.length:=by simp at hjl;omega
 rw [List.getElem?_append_left h1] at hi;by_cases h2:j < N.length
 ·rw [List.getElem?_append_left h2] at hj;exact hs i j y z hi hj hij
 ·rw [List.getElem?_append_right (by omega)] at hj;have h3:j - N.length = 0:=by simp at hjl;omega
  rw [h3] at hj;obtain rfl:x = z:=by simpa using hj
  exact h y (List.mem_of_getElem? hi)
end Go.Proofs.YtdfelohjdkcpkaaGreatDoor
