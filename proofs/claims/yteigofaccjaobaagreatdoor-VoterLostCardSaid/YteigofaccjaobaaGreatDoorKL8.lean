/- wal.stands where a record may stand. Printed by gen_i16.py. -/
import Derived.Test.YteigofaccjaobaaGreatDoorKL7
namespace Go.Proofs.YteigofaccjaobaaGreatDoor
open Go.RowKit
set_option maxRecDepth 100000 in
set_option maxHeartbeats 12800000 in
theorem stands_rec {G:List Nat} {E:Nat→Addr} (w:World) (hE:EAt G E w) (i1:3 ∈ G) (i2:9 ∈ G) (i3:5 ∈ G) (b off n c:Nat) (x:Nat × List UInt8) (T:List (Nat × List UInt8)) (hn:T.length = n) (h:SecsAt w (some ⟨b,off,none⟩) (x :: T)) (hx:x.2.head? = some 1) (hnb:n≤1000) (hc1:c ≠ 1) :
 Calls Tryz.prog 153 #[.slice (some ⟨b,off,none⟩) (n + 1) c] w (StdP ((x :: T).map (·.2)) w):=by
 obtain ⟨wA,hwA⟩:∃ wA,wA = w.alloc (.cells rcZ 167):=⟨_,rfl⟩
 have ga:Gr w wA:=by rw [hwA];exact (Gr.refl w).alloc _
 have hst:standF ((x :: T).map (·.2)) = parF (strmF x.2 (T.map (·.2))):=stands_yes hx;obtain ⟨hbl,hc⟩:=(h.gr ga).cell (i:=0) rfl;obtain ⟨hxb,hxl⟩:=(h.gr ga).b x List.mem_cons_self;obtain ⟨d,hd,hdh⟩:=head_of hxl;obtain ⟨hxz,hxc⟩:=hxb.at' hd;rw [hx] at hdh;obtain rfl:d = 1:=(Option.some.inj hdh).symm;have hcl:=cloneB_any wA (some ⟨x.1,0 + 1,none⟩) 63 (x.2.drop 1) (hxb.drop 1) (fun e => by cases e) (by rw [List.length_drop,hxl];decide);have hp0:(x.2.drop 1).length = 63:=by rw [List.length_drop,hxl]
 rw [hp0] at hcl;have hn1:((n:Int) + 1 == 0) = false:=beq_eq_false_iff_ne.2 (by omega);have hB:Blk wA w.heap.size rcZ 167:=by rw [hwA];exact Blk.new w rcZ 167
 have hcost0:∀ w,Calls Tryz.prog 118 #[.int .i64 0] w fun e w' => e = .returned (.int .i64 0)∧w' = w:=fun w => cost_any w 0 (by decide)
 have hsA:=ga.size;have hTm:(T.map (·.2)).length = n:=by rw [List.length_map];exact hn
 replace hB:=Lib.hid hB;replace h:=Lib.hid h;replace hst:=Lib.hid hst;replace hxb:=Lib.hid hxb;replace hd:=Lib.hid hd;replace hx:=Lib.hid hx;replace hn:=Lib.hid hn;replace hwA:=Lib.hid hwA;replace hcl:=Lib.hid hcl;replace hp0:=Lib.hid hp0;replace hTm:=Lib.hid hTm;replace hxl:=Lib.hid hxl;replace hcost0:=Lib.hid hcost0;simp only [Nat.add_zero] at hc hxc;go_enter Tryz.func153,Tryz.ntmps153;go_upto_region 1 with fail
 rw [← hwA.out];go_wp2_with fail;refine hcl.out.mono ?_;rintro e w1 ⟨a1,c1,rfl,hO1⟩;have g1:=hO1.2.2.2.2;have hO1b:Own wA w1 a1 c1 (x.2.drop 1):=hO1;replace hO1:=Lib.hid hO1;replace hO1b:=Lib.hid hO1b;go_wp2_with fail;go_loopw [5,31] (fun sv iv wr => ∃ (i:Nat) (a':Option Addr) (c':Nat) (P:List UInt8),i≤n∧iv = .int .i64 i∧sv = .slice a' P.length c'∧Hid (Own wA wr a' c' P∧P = x.2.drop 1 ++ ((T.map (·.2)).take i).flatMap (·.drop 1)∧P.length = 63 * (i + 1)∧∀ y ∈ (T.map (·.2)).take i,y.head? = some 0)) (fun _ iv _ => n - (intOf iv).toNat);case atStart => exact ⟨0,a1,c1,x.2.drop 1,Nat.zero_le _,rfl,by rw [hp0.out],Lib.hid ⟨hO1b.out,by simp,by rw [hp0.out],fun y hy => by simp at hy⟩⟩
 case round =>
  obtain ⟨i,a',c',P,hin,rfl,rfl,hI⟩:=hrel;obtain ⟨wo,rfl⟩:∃ wo:World,wo = wr:=⟨wr,rfl⟩
  obtain ⟨hO,hP,hPl,hz⟩:=hI.out;have gA:=hO.2.2.2.2;have gw:Gr w wo:=ga.trans gA;have hEo:=hE.gr gw;obtain ⟨sb,so,rfl⟩:∃ sb so,a' = some ⟨sb,so,none⟩:=by
   cases P with
   | nil => simp at hPl
   | cons y r => obtain ⟨b',o',ha,-⟩:=hO.2.1 0 y rfl;exact ⟨b',o',ha⟩
  have hcap:=hO.x.cap;have hpar:=parse_any wo hEo i1 i2 i3 sb so c' P hO.2.1 hcap (by unfold maxLen;omega);have hB1:=hB.out.gr gA;have hbl1:=hB1.lt;clear hI;by_cases hi:i < n
  ·obtain ⟨y,hy⟩:=get_some T i (by rw [hn.out];exact hi);have hym:(T.map (·.2))[i]? = some y.2:=by rw [List.getElem?_map,hy];rfl
   have hS:=h.out.gr gw;obtain ⟨hbz,hyc⟩:=hS.cell (i:=i + 1) (x:=y) hy;rw [show off + (i + 1) = off + 1 + i by omega] at hyc;obtain ⟨hyb,hyl⟩:=hS.b y (List.mem_cons_of_mem _ (get_mem hy));obtain ⟨dy,hdy,hdyh⟩:=head_of hyl;obtain ⟨hyz,hyc0⟩:=hyb.at' hdy;simp only [Nat.add_zero] at hyc0;have hyt:=hyb.drop 1;have hyl1:(y.2.drop 1).length = 63:=by rw [List.length_drop,hyl]
   by_cases hd0:dy = 0
   ·subst hd0;have hsn:P ++ y.2.drop 1 = x.2.drop 1 ++ ((T.map (·.2)).take (i + 1)).flatMap (·.drop 1):=by
     rw [take_snoc hym,List.flatMap_append,← List.append_assoc,← hP];simp
    have hz2:∀ z ∈ (T.map (·.2)).take (i + 1),z.head? = some 0:=by
     intro z hzm;rw [take_snoc hym] at hzm;rcases List.mem_append.1 hzm with h1 | h1
     ·exact hz z h1
     ·rw [List.mem_singleton.1 h1];exact hdyh
    have hq:P.length≤63 * 1001:=by omega
    obtain ⟨m,hm⟩:∃ m,m = P.length:=⟨_,rfl⟩
    rw [← hm] at hq ⊢;have hm2:m + 63≤1000000:=by omega
    replace hm:=Lib.hid hm;replace hP:=Lib.hid hP;replace hPl:=Lib.hid hPl;replace hz:=Lib.hid hz;replace hz2:=Lib.hid hz2;replace hsn:=Lib.hid hsn;replace hO:=Lib.hid hO;replace hpar:=Lib.hid hpar;replace hB1:=Lib.hid hB1;replace hS:=Lib.hid hS;replace hyb:=Lib.hid hyb;replace hyt:=Lib.hid hyt;replace hdy:=Lib.hid hdy;replace hym:=Lib.hid hym;replace hyl:=Lib.hid hyl;replace hyl1:=Lib.hid hyl1;replace hdyh:=Lib.hid hdyh;replace hy:=Lib.hid hy;go_wp2_with (at_builtin;go_loud (refine wpList_app2 (W:=wA) rfl _ _ rfl (some ⟨sb,so,none⟩) c' m P rfl hm.out.symm hO.out (some ⟨y.1,0 + 1,none⟩) 63 (y.2.drop 1) (by rw [hyl1.out];rfl) hyt.out (fun h => by cases h) (by rw [hyl1.out];exact hm2) ?_;intro a9 c9 w9 hO9 hg9 hw9;replace hO9:=Lib.hid hO9;clear hg9 hw9));go_roundw;case rel => exact ⟨i + 1,a9,c9,P ++ y.2.drop 1,by omega,by go_num,by simp,Lib.hid ⟨hO9.out,hsn.out,by rw [List.length_append,hyl1.out,hPl.out];omega,hz2.out⟩⟩
    case measure => simp [intOf];omega
   ·have hdn:((dy.toNat:Int) != 0) = true:=by
     have h2:dy.toNat ≠ 0:=fun e => hd0 (by rw [← UInt8.toNat_inj,e];rfl)
     simp only [bne_iff_ne,ne_eq];omega
    have hne:y.2.head? ≠ some 0:=fun e => hd0 (by rw [hdyh] at e;exact Option.some.inj e)
    have hstop:=strm_stop (s:=x.2) hz hym hne;replace hyb:=Lib.hid hyb;replace hyt:=Lib.hid hyt;replace hS:=Lib.hid hS;replace hdy:=Lib.hid hdy;replace hym:=Lib.hid hym;replace hyl:=Lib.hid hyl;replace hyl1:=Lib.hid hyl1;replace hdyh:=Lib.hid hdyh;replace hy:=Lib.hid hy;replace hd0:=Lib.hid hd0;replace hne:=Lib.hid hne;have hfin:standF ((x :: T).map (·.2)) = parF P:=by rw [hst.out,hP,hstop]
    replace hpar:=Lib.hid hpar;replace hO:=Lib.hid hO;replace hP:=Lib.hid hP;replace hPl:=Lib.hid hPl;replace hz:=Lib.hid hz;replace hB1:=Lib.hid hB1;replace hfin:=Lib.hid hfin;go_wp2_with fail;refine hpar.out.mono ?_;rintro e w2 ⟨g2,hpp⟩;have gw2:=gw.trans g2;have gA2:=gA.trans g2;cases hpf:parF P with
    | none =>
     rw [hpf] at hpp;subst hpp;rw [hpf] at hfin;have hAR:w.heap.size < w2.heap.size:=Nat.lt_of_lt_of_le hbl1 g2.size;obtain ⟨nR,hnR⟩:∃ nR,nR = w2.heap.size:=⟨_,rfl⟩
     obtain ⟨w3,hw3⟩:∃ w3,w3 = w2.alloc (.cells rcZ 167):=⟨_,rfl⟩
     have g3:Gr w2 w3:=by rw [hw3];exact (Gr.refl _).alloc _
     have hR3:Blk w3 nR rcZ 167:=by rw [hw3,hnR];exact Blk.new _ _ _
     have hB:=(hB1.out.gr g2).gr g3;have f0:=hB.free 0;have f1:=hB.free 1;have f2:=hB.free 2;have f3:=hB.free 3;have c0:=hB.cell (i:=0) (v:=.int .i64 0) rfl;have c1':=hB.cell (i:=1) (v:=.int .i64 0) rfl;have c2:=hB.cell (i:=2) (v:=.int .i64 0) rfl;have c3:=hB.cell (i:=3) (v:=.slice none 0 0) rfl;have zB:=hB.lt;have r0:=hR3.cell (i:=0) (v:=.int .i64 0) rfl;have r1:=hR3.cell (i:=1) (v:=.int .i64 0) rfl;have r2:=hR3.cell (i:=2) (v:=.int .i64 0) rfl;have r3:=hR3.cell (i:=3) (v:=.slice none 0 0) rfl;have zR:=hR3.lt;have hfw:=(gw2.trans g3).drew.set4 (Nat.le_refl _) (.int .i64 0) (.int .i64 0) (.int .i64 0) (.slice none 0 0);replace hfw:=Lib.hid hfw;replace hB:=Lib.hid hB;replace hR3:=Lib.hid hR3;rw [← hnR] at hAR;have hne1:nR ≠ w.heap.size:=by omega
     have hne2:w.heap.size ≠ nR:=by omega
     replace hnR:=Lib.hid hnR;replace hw3:=Lib.hid hw3;go_upto_region 11 with fail
     rw [← hw3.out,← hnR.out];go_region_held3 (fun w' => w'.cell? ⟨nR,0,none⟩ = some (.int .i64 0)∧w'.cell? ⟨nR,1,none⟩ = some (.int .i64 0)∧w'.cell? ⟨nR,2,none⟩ = some (.int .i64 0)∧w'.cell? ⟨nR,3,none⟩ = some (.slice none 0 0)) (simp (maxDischargeDepth:=8) [go_sem, *])
      (first
       | (go_at_call 118;(with_reducible refine (hcost0.out _).mono ?_);rintro e w9 ⟨rfl,rfl⟩)
       | fail)
     all_goals
      go_wp2_with fail;refine bodyPost_ret (v:=.tuple #[.agg rcZ,.int .i64 0,.bool false]) ?_ rfl ⟨hfw.out,by rw [hfin.out]⟩;exact (res_cell3 (b:=w.heap.size) (t:=167) Tryz.results153 _ _ (hB.out.drew.set4 rfl _ _ _ _) rfl Tryz.underlying167 (by kernel_rfl)).trans rfl
    | some r =>
     rw [hpf] at hpp;obtain ⟨ar,cr,rfl,hor⟩:=hpp;rw [hpf] at hfin;have hfrl:(frR r).length≤P.length:=by
      have:=(parF_some hpf).2.1;rw [this,List.length_append];omega
     have hcost:=fun w => cost_any w (frR r).length (by have:=hPl.out;omega)
     have hAR:w.heap.size < w2.heap.size:=Nat.lt_of_lt_of_le hbl1 g2.size;obtain ⟨nR,hnR⟩:∃ nR,nR = w2.heap.size:=⟨_,rfl⟩
     obtain ⟨w3,hw3⟩:∃ w3,w3 = w2.alloc (.cells (rcC r ar cr).toArray 167):=⟨_,rfl⟩
     have g3:Gr w2 w3:=by rw [hw3];exact (Gr.refl _).alloc _
     have hR3:Blk w3 nR (rcC r ar cr).toArray 167:=by rw [hw3,hnR];exact Blk.new _ _ _
     have hB:=(hB1.out.gr g2).gr g3;have f0:=hB.free 0;have f1:=hB.free 1;have f2:=hB.free 2;have f3:=hB.free 3;have c0:=hB.cell (i:=0) (v:=.int .i64 0) rfl;have c1':=hB.cell (i:=1) (v:=.int .i64 0) rfl;have c2:=hB.cell (i:=2) (v:=.int .i64 0) rfl;have c3:=hB.cell (i:=3) (v:=.slice none 0 0) rfl;have zB:=hB.lt;have r0:=hR3.cell (i:=0) (v:=.int .i64 r.g) rfl;have r1:=hR3.cell (i:=1) (v:=.int .i64 r.e) rfl;have r2:=hR3.cell (i:=2) (v:=.int .i64 r.i) rfl;have r3:=hR3.cell (i:=3) (v:=.slice ar r.d.length cr) rfl;have zR:=hR3.lt;have hfw:=(gw2.trans g3).drew.set4 (Nat.le_refl _) (.int .i64 r.g) (.int .i64 r.e) (.int .i64 r.i) (.slice ar r.d.length cr);have ho3:=((hor.gr g3).gr ((Gr.refl _).drew)).older (W:=w) gw.size;have hor4:∀ g,(Value.slice ar r.d.length cr).ownBlock = some g→g ≠ w.heap.size:=fun g hg => by
      cases ar with
      | none => cases hg
      | some y => cases hg;have:=hor.2.2.2 y rfl;omega
     have ho4:OwnX w ((((w3.drew.setCell ⟨w.heap.size,0,none⟩ (.int .i64 r.g)).setCell ⟨w.heap.size,1,none⟩ (.int .i64 r.e)).setCell ⟨w.heap.size,2,none⟩ (.int .i64 r.i)).setCell ⟨w.heap.size,3,none⟩ (.slice ar r.d.length cr)) ar cr r.d :=
      ⟨owns_set (owns_set (owns_set (owns_set ho3.1 (p:=⟨w.heap.size,0,none⟩) hor4 _) (p:=⟨w.heap.size,1,none⟩) hor4 _) (p:=⟨w.heap.size,2,none⟩) hor4 _) (p:=⟨w.heap.size,3,none⟩) hor4 _,ho3.2.1.set4 (fun y hy => by have:=hor.2.2.2 y hy;omega) _ _ _ _,ho3.2.2.1,ho3.2.2.2⟩
     obtain ⟨nf,hnf⟩:∃ nf,nf = (frR r).length:=⟨_,rfl⟩
     have hcr:costR r = costN nf:=by rw [hnf];rfl
     rw [← hnf] at hcost;replace hcr:=Lib.hid hcr;replace hnf:=Lib.hid hnf;replace hfrl:=Lib.hid hfrl;replace hcost:=Lib.hid hcost;replace ho4:=Lib.hid ho4;replace ho3:=Lib.hid ho3;replace hor:=Lib.hid hor;replace hor4:=Lib.hid hor4;replace hfw:=Lib.hid hfw;replace hB:=Lib.hid hB;replace hR3:=Lib.hid hR3;rw [← hnR] at hAR;have hne1:nR ≠ w.heap.size:=by omega
     have hne2:w.heap.size ≠ nR:=by omega
     replace hnR:=Lib.hid hnR;replace hw3:=Lib.hid hw3;rw [← hnf.out];go_upto_region 11 with fail
     rw [← hw3.out,← hnR.out];go_region_held3 (fun w' => w'.cell? ⟨nR,0,none⟩ = some (.int .i64 r.g)∧w'.cell? ⟨nR,1,none⟩ = some (.int .i64 r.e)∧w'.cell? ⟨nR,2,none⟩ = some (.int .i64 r.i)∧w'.cell? ⟨nR,3,none⟩ = some (.slice ar r.d.length cr)) (simp (maxDischargeDepth:=8) [go_sem, *])
      (first
       | (go_at_call 118;(with_reducible refine (hcost.out _).mono ?_);rintro e w9 ⟨rfl,rfl⟩)
       | fail)
     all_goals
      go_wp2_with fail;refine bodyPost_ret (v:=.tuple #[rcV r ar cr,.int .i64 (costN nf:Int),.bool true]) ?_ rfl ⟨hfw.out,by rw [hfin.out];exact ⟨ar,cr,by rw [hcr.out],ho4.out⟩⟩;exact (res_cell3 (b:=w.heap.size) (t:=167) Tryz.results153 _ _ (hB.out.drew.set4 rfl _ _ _ _) rfl Tryz.underlying167 (by kernel_rfl)).trans rfl
  ·have hin2:i = n:=by omega
   have hkb:decide ((i:Int) < n) = false:=decide_eq_false (by omega);have htk:(T.map (·.2)).take i = T.map (·.2):=List.take_of_length_le (by rw [hTm.out];omega);have hstop:=strm_all (s:=x.2) (t:=T.map (·.2)) (by rw [htk] at hz;exact hz);replace hin2:=Lib.hid hin2;have hfin:standF ((x :: T).map (·.2)) = parF P:=by rw [hst.out,hP,hstop,htk]
   replace hpar:=Lib.hid hpar;replace hO:=Lib.hid hO;replace hP:=Lib.hid hP;replace hPl:=Lib.hid hPl;replace hz:=Lib.hid hz;replace hB1:=Lib.hid hB1;replace hfin:=Lib.hid hfin;go_wp2_with fail;refine hpar.out.mono ?_;rintro e w2 ⟨g2,hpp⟩;have gw2:=gw.trans g2;have gA2:=gA.trans g2;cases hpf:parF P with
   | none =>
    rw [hpf] at hpp;subst hpp;rw [hpf] at hfin;have hAR:w.heap.size < w2.heap.size:=Nat.lt_of_lt_of_le hbl1 g2.size;obtain ⟨nR,hnR⟩:∃ nR,nR = w2.heap.size:=⟨_,rfl⟩
    obtain ⟨w3,hw3⟩:∃ w3,w3 = w2.alloc (.cells rcZ 167):=⟨_,rfl⟩
    have g3:Gr w2 w3:=by rw [hw3];exact (Gr.refl _).alloc _
    have hR3:Blk w3 nR rcZ 167:=by rw [hw3,hnR];exact Blk.new _ _ _
    have hB:=(hB1.out.gr g2).gr g3;have f0:=hB.free 0;have f1:=hB.free 1;have f2:=hB.free 2;have f3:=hB.free 3;have c0:=hB.cell (i:=0) (v:=.int .i64 0) rfl;have c1':=hB.cell (i:=1) (v:=.int .i64 0) rfl;have c2:=hB.cell (i:=2) (v:=.int .i64 0) rfl;have c3:=hB.cell (i:=3) (v:=.slice none 0 0) rfl;have zB:=hB.lt;have r0:=hR3.cell (i:=0) (v:=.int .i64 0) rfl;have r1:=hR3.cell (i:=1) (v:=.int .i64 0) rfl;have r2:=hR3.cell (i:=2) (v:=.int .i64 0) rfl;have r3:=hR3.cell (i:=3) (v:=.slice none 0 0) rfl;have zR:=hR3.lt;have hfw:=(gw2.trans g3).drew.set4 (Nat.le_refl _) (.int .i64 0) (.int .i64 0) (.int .i64 0) (.slice none 0 0);replace hfw:=Lib.hid hfw;replace hB:=Lib.hid hB;replace hR3:=Lib.hid hR3;rw [← hnR] at hAR;have hne1:nR ≠ w.heap.size:=by omega
    have hne2:w.heap.size ≠ nR:=by omega
    replace hnR:=Lib.hid hnR;replace hw3:=Lib.hid hw3;go_upto_region 11 with fail
    rw [← hw3.out,← hnR.out];go_region_held3 (fun w' => w'.cell? ⟨nR,0,none⟩ = some (.int .i64 0)∧w'.cell? ⟨nR,1,none⟩ = some (.int .i64 0)∧w'.cell? ⟨nR,2,none⟩ = some (.int .i64 0)∧w'.cell? ⟨nR,3,none⟩ = some (.slice none 0 0)) (simp (maxDischargeDepth:=8) [go_sem, *])
     (first
      | (go_at_call 118;(with_reducible refine (hcost0.out _).mono ?_);rintro e w9 ⟨rfl,rfl⟩)
      | fail)
    all_goals
     go_wp2_with fail;refine bodyPost_ret (v:=.tuple #[.agg rcZ,.int .i64 0,.bool false]) ?_ rfl ⟨hfw.out,by rw [hfin.out]⟩;exact (res_cell3 (b:=w.heap.size) (t:=167) Tryz.results153 _ _ (hB.out.drew.set4 rfl _ _ _ _) rfl Tryz.underlying167 (by kernel_rfl)).trans rfl
   | some r =>
    rw [hpf] at hpp;obtain ⟨ar,cr,rfl,hor⟩:=hpp;rw [hpf] at hfin;have hfrl:(frR r).length≤P.length:=by
     have:=(parF_some hpf).2.1;rw [this,List.length_append];omega
    have hcost:=fun w => cost_any w (frR r).length (by have:=hPl.out;omega)
    have hAR:w.heap.size < w2.heap.size:=Nat.lt_of_lt_of_le hbl1 g2.size;obtain ⟨nR,hnR⟩:∃ nR,nR = w2.heap.size:=⟨_,rfl⟩
    obtain ⟨w3,hw3⟩:∃ w3,w3 = w2.alloc (.cells (rcC r ar cr).toArray 167):=⟨_,rfl⟩
    have g3:Gr w2 w3:=by rw [hw3];exact (Gr.refl _).alloc _
    have hR3:Blk w3 nR (rcC r ar cr).toArray 167:=by rw [hw3,hnR];exact Blk.new _ _ _
    have hB:=(hB1.out.gr g2).gr g3;have f0:=hB.free 0;have f1:=hB.free 1;have f2:=hB.free 2;have f3:=hB.free 3;have c0:=hB.cell (i:=0) (v:=.int .i64 0) rfl;have c1':=hB.cell (i:=1) (v:=.int .i64 0) rfl;have c2:=hB.cell (i:=2) (v:=.int .i64 0) rfl;have c3:=hB.cell (i:=3) (v:=.slice none 0 0) rfl;have zB:=hB.lt;have r0:=hR3.cell (i:=0) (v:=.int .i64 r.g) rfl;have r1:=hR3.cell (i:=1) (v:=.int .i64 r.e) rfl;have r2:=hR3.cell (i:=2) (v:=.int .i64 r.i) rfl;have r3:=hR3.cell (i:=3) (v:=.slice ar r.d.length cr) rfl;have zR:=hR3.lt;have hfw:=(gw2.trans g3).drew.set4 (Nat.le_refl _) (.int .i64 r.g) (.int .i64 r.e) (.int .i64 r.i) (.slice ar r.d.length cr);have ho3:=((hor.gr g3).gr ((Gr.refl _).drew)).older (W:=w) gw.size;have hor4:∀ g,(Value.slice ar r.d.length cr).ownBlock = some g→g ≠ w.heap.size:=fun g hg => by
     cases ar with
     | none => cases hg
     | some y => cases hg;have:=hor.2.2.2 y rfl;omega
    have ho4:OwnX w ((((w3.drew.setCell ⟨w.heap.size,0,none⟩ (.int .i64 r.g)).setCell ⟨w.heap.size,1,none⟩ (.int .i64 r.e)).setCell ⟨w.heap.size,2,none⟩ (.int .i64 r.i)).setCell ⟨w.heap.size,3,none⟩ (.slice ar r.d.length cr)) ar cr r.d :=
     ⟨owns_set (owns_set (owns_set (owns_set ho3.1 (p:=⟨w.heap.size,0,none⟩) hor4 _) (p:=⟨w.heap.size,1,none⟩) hor4 _) (p:=⟨w.heap.size,2,none⟩) hor4 _) (p:=⟨w.heap.size,3,none⟩) hor4 _,ho3.2.1.set4 (fun y hy => by have:=hor.2.2.2 y hy;omega) _ _ _ _,ho3.2.2.1,ho3.2.2.2⟩
    obtain ⟨nf,hnf⟩:∃ nf,nf = (frR r).length:=⟨_,rfl⟩
    have hcr:costR r = costN nf:=by rw [hnf];rfl
    rw [← hnf] at hcost;replace hcr:=Lib.hid hcr;replace hnf:=Lib.hid hnf;replace hfrl:=Lib.hid hfrl;replace hcost:=Lib.hid hcost;replace ho4:=Lib.hid ho4;replace ho3:=Lib.hid ho3;replace hor:=Lib.hid hor;replace hor4:=Lib.hid hor4;replace hfw:=Lib.hid hfw;replace hB:=Lib.hid hB;replace hR3:=Lib.hid hR3;rw [← hnR] at hAR;have hne1:nR ≠ w.heap.size:=by omega
    have hne2:w.heap.size ≠ nR:=by omega
    replace hnR:=Lib.hid hnR;replace hw3:=Lib.hid hw3;rw [← hnf.out];go_upto_region 11 with fail
    rw [← hw3.out,← hnR.out];go_region_held3 (fun w' => w'.cell? ⟨nR,0,none⟩ = some (.int .i64 r.g)∧w'.cell? ⟨nR,1,none⟩ = some (.int .i64 r.e)∧w'.cell? ⟨nR,2,none⟩ = some (.int .i64 r.i)∧w'.cell? ⟨nR,3,none⟩ = some (.slice ar r.d.length cr)) (simp (maxDischargeDepth:=8) [go_sem, *])
     (first
      | (go_at_call 118;(with_reducible refine (hcost.out _).mono ?_);rintro e w9 ⟨rfl,rfl⟩)
      | fail)
    all_goals
     go_wp2_with fail;refine bodyPost_ret (v:=.tuple #[rcV r ar cr,.int .i64 (costN nf:Int),.bool true]) ?_ rfl ⟨hfw.out,by rw [hfin.out];exact ⟨ar,cr,by rw [hcr.out],ho4.out⟩⟩;exact (res_cell3 (b:=w.heap.size) (t:=167) Tryz.results153 _ _ (hB.out.drew.set4 rfl _ _ _ _) rfl Tryz.underlying167 (by kernel_rfl)).trans rfl
set_option maxRecDepth 100000 in
set_option maxHeartbeats 12800000 in
theorem stands_one {G:List Nat} {E:Nat→Addr} (w:World) (hE:EAt G E w) (i1:3 ∈ G) (i2:9 ∈ G) (i3:5 ∈ G) (b off:Nat) (x:Nat × List UInt8) (h:SecsAt w (some ⟨b,off,none⟩) [x]) (hx:x.2.head? = some 1) :
 Calls Tryz.prog 153 #[.slice (some ⟨b,off,none⟩) 1 1] w (StdP ([x].map (·.2)) w):=by
 obtain ⟨wA,hwA⟩:∃ wA,wA = w.alloc (.cells rcZ 167):=⟨_,rfl⟩
 have ga:Gr w wA:=by rw [hwA];exact (Gr.refl w).alloc _
 have hst:standF ([x].map (·.2)) = parF (strmF x.2 (([]:List (Nat × List UInt8)).map (·.2))):=stands_yes hx;obtain ⟨hbl,hc⟩:=(h.gr ga).cell (i:=0) rfl;obtain ⟨hxb,hxl⟩:=(h.gr ga).b x List.mem_cons_self;obtain ⟨d,hd,hdh⟩:=head_of hxl;obtain ⟨hxz,hxc⟩:=hxb.at' hd;rw [hx] at hdh;obtain rfl:d = 1:=(Option.some.inj hdh).symm;have hcl:=cloneB_any wA (some ⟨x.1,0 + 1,none⟩) 63 (x.2.drop 1) (hxb.drop 1) (fun e => by cases e) (by rw [List.length_drop,hxl];decide);have hp0:(x.2.drop 1).length = 63:=by rw [List.length_drop,hxl]
 rw [hp0] at hcl;have hB:Blk wA w.heap.size rcZ 167:=by rw [hwA];exact Blk.new w rcZ 167
 have hcost0:∀ w,Calls Tryz.prog 118 #[.int .i64 0] w fun e w' => e = .returned (.int .i64 0)∧w' = w:=fun w => cost_any w 0 (by decide)
 have hsA:=ga.size;have hTm:(([]:List (Nat × List UInt8)).map (·.2)).length = 0:=rfl;replace hB:=Lib.hid hB;replace h:=Lib.hid h;replace hst:=Lib.hid hst;replace hxb:=Lib.hid hxb;replace hd:=Lib.hid hd;replace hx:=Lib.hid hx;replace hwA:=Lib.hid hwA;replace hcl:=Lib.hid hcl;replace hp0:=Lib.hid hp0;replace hTm:=Lib.hid hTm;replace hxl:=Lib.hid hxl;replace hcost0:=Lib.hid hcost0;simp only [Nat.add_zero] at hc hxc;go_enter Tryz.func153,Tryz.ntmps153;go_upto_region 1 with fail
 rw [← hwA.out];go_wp2_with fail;refine hcl.out.mono ?_;rintro e w1 ⟨a1,c1,rfl,hO1⟩;have g1:=hO1.2.2.2.2;have hO1b:Own wA w1 a1 c1 (x.2.drop 1):=hO1;replace hO1:=Lib.hid hO1;replace hO1b:=Lib.hid hO1b;go_wp2_with fail;go_loopw [5,31] (fun sv iv wr => ∃ (i:Nat) (a':Option Addr) (c':Nat) (P:List UInt8),i≤0∧iv = .int .i64 i∧sv = .slice a' P.length c'∧Hid (Own wA wr a' c' P∧P = x.2.drop 1 ++ ((([]:List (Nat × List UInt8)).map (·.2)).take i).flatMap (·.drop 1)∧P.length = 63 * (i + 1)∧∀ y ∈ (([]:List (Nat × List UInt8)).map (·.2)).take i,y.head? = some 0)) (fun _ _ _ => 0);case atStart => exact ⟨0,a1,c1,x.2.drop 1,Nat.zero_le _,rfl,by rw [hp0.out],Lib.hid ⟨hO1b.out,by simp,by rw [hp0.out],fun y hy => by simp at hy⟩⟩
 case round =>
  obtain ⟨i,a',c',P,hin,rfl,rfl,hI⟩:=hrel;obtain ⟨wo,rfl⟩:∃ wo:World,wo = wr:=⟨wr,rfl⟩
  obtain ⟨hO,hP,hPl,hz⟩:=hI.out;have gA:=hO.2.2.2.2;have gw:Gr w wo:=ga.trans gA;have hEo:=hE.gr gw;obtain ⟨sb,so,rfl⟩:∃ sb so,a' = some ⟨sb,so,none⟩:=by
   cases P with
   | nil => simp at hPl
   | cons y r => obtain ⟨b',o',ha,-⟩:=hO.2.1 0 y rfl;exact ⟨b',o',ha⟩
  have hcap:=hO.x.cap;have hpar:=parse_any wo hEo i1 i2 i3 sb so c' P hO.2.1 hcap (by unfold maxLen;omega);have hB1:=hB.out.gr gA;have hbl1:=hB1.lt;clear hI;have hin2:i = 0:=by omega
  have hkb:decide ((i:Int) < 0) = false:=decide_eq_false (by omega);have htk:(([]:List (Nat × List UInt8)).map (·.2)).take i = ([]:List (Nat × List UInt8)).map (·.2):=List.take_of_length_le (by rw [hTm.out];omega);have hstop:=strm_all (s:=x.2) (t:=([]:List (Nat × List UInt8)).map (·.2)) (by rw [htk] at hz;exact hz);replace hin2:=Lib.hid hin2;have hfin:standF ([x].map (·.2)) = parF P:=by rw [hst.out,hP,hstop,htk]
  replace hpar:=Lib.hid hpar;replace hO:=Lib.hid hO;replace hP:=Lib.hid hP;replace hPl:=Lib.hid hPl;replace hz:=Lib.hid hz;replace hB1:=Lib.hid hB1;replace hfin:=Lib.hid hfin;go_wp2_with fail;refine hpar.out.mono ?_;rintro e w2 ⟨g2,hpp⟩;have gw2:=gw.trans g2;have gA2:=gA.trans g2;cases hpf:parF P with
  | none =>
   rw [hpf] at hpp;subst hpp;rw [hpf] at hfin;have hAR:w.heap.size < w2.heap.size:=Nat.lt_of_lt_of_le hbl1 g2.size;obtain ⟨nR,hnR⟩:∃ nR,nR = w2.heap.size:=⟨_,rfl⟩
   obtain ⟨w3,hw3⟩:∃ w3,w3 = w2.alloc (.cells rcZ 167):=⟨_,rfl⟩
   have g3:Gr w2 w3:=by rw [hw3];exact (Gr.refl _).alloc _
   have hR3:Blk w3 nR rcZ 167:=by rw [hw3,hnR];exact Blk.new _ _ _
   have hB:=(hB1.out.gr g2).gr g3;have f0:=hB.free 0;have f1:=hB.free 1;have f2:=hB.free 2;have f3:=hB.free 3;have c0:=hB.cell (i:=0) (v:=.int .i64 0) rfl;have c1':=hB.cell (i:=1) (v:=.int .i64 0) rfl;have c2:=hB.cell (i:=2) (v:=.int .i64 0) rfl;have c3:=hB.cell (i:=3) (v:=.slice none 0 0) rfl;have zB:=hB.lt;have r0:=hR3.cell (i:=0) (v:=.int .i64 0) rfl;have r1:=hR3.cell (i:=1) (v:=.int .i64 0) rfl;have r2:=hR3.cell (i:=2) (v:=.int .i64 0) rfl;have r3:=hR3.cell (i:=3) (v:=.slice none 0 0) rfl;have zR:=hR3.lt;have hfw:=(gw2.trans g3).drew.set4 (Nat.le_refl _) (.int .i64 0) (.int .i64 0) (.int .i64 0) (.slice none 0 0);replace hfw:=Lib.hid hfw;replace hB:=Lib.hid hB;replace hR3:=Lib.hid hR3;rw [← hnR] at hAR;have hne1:nR ≠ w.heap.size:=by omega
   have hne2:w.heap.size ≠ nR:=by omega
   replace hnR:=Lib.hid hnR;replace hw3:=Lib.hid hw3;go_upto_region 11 with fail
   rw [← hw3.out,← hnR.out];go_region_held3 (fun w' => w'.cell? ⟨nR,0,none⟩ = some (.int .i64 0)∧w'.cell? ⟨nR,1,none⟩ = some (.int .i64 0)∧w'.cell? ⟨nR,2,none⟩ = some (.int .i64 0)∧w'.cell? ⟨nR,3,none⟩ = some (.slice none 0 0)) (simp (maxDischargeDepth:=8) [go_sem, *])
    (first
     | (go_at_call 118;(with_reducible refine (hcost0.out _).mono ?_);rintro e w9 ⟨rfl,rfl⟩)
     | fail)
   all_goals
    go_wp2_with fail;refine bodyPost_ret (v:=.tuple #[.agg rcZ,.int .i64 0,.bool false]) ?_ rfl ⟨hfw.out,by rw [hfin.out]⟩;exact (res_cell3 (b:=w.heap.size) (t:=167) Tryz.results153 _ _ (hB.out.drew.set4 rfl _ _ _ _) rfl Tryz.underlying167 (by kernel_rfl)).trans rfl
  | some r =>
   rw [hpf] at hpp;obtain ⟨ar,cr,rfl,hor⟩:=hpp;rw [hpf] at hfin;have hfrl:(frR r).length≤P.length:=by
    have:=(parF_some hpf).2.1;rw [this,List.length_append];omega
   have hcost:=fun w => cost_any w (frR r).length (by have:=hPl.out;omega)
   have hAR:w.heap.size < w2.heap.size:=Nat.lt_of_lt_of_le hbl1 g2.size;obtain ⟨nR,hnR⟩:∃ nR,nR = w2.heap.size:=⟨_,rfl⟩
   obtain ⟨w3,hw3⟩:∃ w3,w3 = w2.alloc (.cells (rcC r ar cr).toArray 167):=⟨_,rfl⟩
   have g3:Gr w2 w3:=by rw [hw3];exact (Gr.refl _).alloc _
   have hR3:Blk w3 nR (rcC r ar cr).toArray 167:=by rw [hw3,hnR];exact Blk.new _ _ _
   have hB:=(hB1.out.gr g2).gr g3;have f0:=hB.free 0;have f1:=hB.free 1;have f2:=hB.free 2;have f3:=hB.free 3;have c0:=hB.cell (i:=0) (v:=.int .i64 0) rfl;have c1':=hB.cell (i:=1) (v:=.int .i64 0) rfl;have c2:=hB.cell (i:=2) (v:=.int .i64 0) rfl;have c3:=hB.cell (i:=3) (v:=.slice none 0 0) rfl;have zB:=hB.lt;have r0:=hR3.cell (i:=0) (v:=.int .i64 r.g) rfl;have r1:=hR3.cell (i:=1) (v:=.int .i64 r.e) rfl;have r2:=hR3.cell (i:=2) (v:=.int .i64 r.i) rfl;have r3:=hR3.cell (i:=3) (v:=.slice ar r.d.length cr) rfl;have zR:=hR3.lt;have hfw:=(gw2.trans g3).drew.set4 (Nat.le_refl _) (.int .i64 r.g) (.int .i64 r.e) (.int .i64 r.i) (.slice ar r.d.length cr);have ho3:=((hor.gr g3).gr ((Gr.refl _).drew)).older (W:=w) gw.size;have hor4:∀ g,(Value.slice ar r.d.length cr).ownBlock = some g→g ≠ w.heap.size:=fun g hg => by
    cases ar with
    | none => cases hg
    | some y => cases hg;have:=hor.2.2.2 y rfl;omega
   have ho4:OwnX w ((((w3.drew.setCell ⟨w.heap.size,0,none⟩ (.int .i64 r.g)).setCell ⟨w.heap.size,1,none⟩ (.int .i64 r.e)).setCell ⟨w.heap.size,2,none⟩ (.int .i64 r.i)).setCell ⟨w.heap.size,3,none⟩ (.slice ar r.d.length cr)) ar cr r.d :=
    ⟨owns_set (owns_set (owns_set (owns_set ho3.1 (p:=⟨w.heap.size,0,none⟩) hor4 _) (p:=⟨w.heap.size,1,none⟩) hor4 _) (p:=⟨w.heap.size,2,none⟩) hor4 _) (p:=⟨w.heap.size,3,none⟩) hor4 _,ho3.2.1.set4 (fun y hy => by have:=hor.2.2.2 y hy;omega) _ _ _ _,ho3.2.2.1,ho3.2.2.2⟩
   obtain ⟨nf,hnf⟩:∃ nf,nf = (frR r).length:=⟨_,rfl⟩
   have hcr:costR r = costN nf:=by rw [hnf];rfl
   rw [← hnf] at hcost;replace hcr:=Lib.hid hcr;replace hnf:=Lib.hid hnf;replace hfrl:=Lib.hid hfrl;replace hcost:=Lib.hid hcost;replace ho4:=Lib.hid ho4;replace ho3:=Lib.hid ho3;replace hor:=Lib.hid hor;replace hor4:=Lib.hid hor4;replace hfw:=Lib.hid hfw;replace hB:=Lib.hid hB;replace hR3:=Lib.hid hR3;rw [← hnR] at hAR;have hne1:nR ≠ w.heap.size:=by omega
   have hne2:w.heap.size ≠ nR:=by omega
   replace hnR:=Lib.hid hnR;replace hw3:=Lib.hid hw3;rw [← hnf.out];go_upto_region 11 with fail
   rw [← hw3.out,← hnR.out];go_region_held3 (fun w' => w'.cell? ⟨nR,0,none⟩ = some (.int .i64 r.g)∧w'.cell? ⟨nR,1,none⟩ = some (.int .i64 r.e)∧w'.cell? ⟨nR,2,none⟩ = some (.int .i64 r.i)∧w'.cell? ⟨nR,3,none⟩ = some (.slice ar r.d.length cr)) (simp (maxDischargeDepth:=8) [go_sem, *])
    (first
     | (go_at_call 118;(with_reducible refine (hcost.out _).mono ?_);rintro e w9 ⟨rfl,rfl⟩)
     | fail)
   all_goals
    go_wp2_with fail;refine bodyPost_ret (v:=.tuple #[rcV r ar cr,.int .i64 (costN nf:Int),.bool true]) ?_ rfl ⟨hfw.out,by rw [hfin.out];exact ⟨ar,cr,by rw [hcr.out],ho4.out⟩⟩;exact (res_cell3 (b:=w.heap.size) (t:=167) Tryz.results153 _ _ (hB.out.drew.set4 rfl _ _ _ _) rfl Tryz.underlying167 (by kernel_rfl)).trans rfl
theorem stands_any {G:List Nat} {E:Nat→Addr} (w:World) (hE:EAt G E w) (i1:3 ∈ G) (i2:9 ∈ G) (i3:5 ∈ G) (b off n c:Nat) (L:List (Nat × List UInt8)) (hn:L.length = n) (h:SecsAt w (some ⟨b,off,none⟩) L) (hnb:n≤1000) (hnc:n≤c) :
 Calls Tryz.prog 153 #[.slice (some ⟨b,off,none⟩) n c] w (StdP (L.map (·.2)) w):=by
 cases L with
 | nil => subst hn;exact stands_nil w _ c
 | cons x T =>
  obtain rfl:T.length + 1 = n:=hn;by_cases hx:x.2.head? = some 1
  ·by_cases hc1:c = 1
   ·subst hc1;obtain rfl:T = []:=List.eq_nil_of_length_eq_zero (by omega);exact stands_one w hE i1 i2 i3 b off x h hx
   ·exact stands_rec w hE i1 i2 i3 b off T.length c x T rfl h hx (by omega) hc1
  ·exact stands_first w b off T.length c x T rfl h hx
structure RcM where
 r:Rc
 a:Option Addr
 c:Nat
abbrev rmC (x:RcM):List Value:=rcC x.r x.a x.c
theorem rmC_len (x:RcM):(rmC x).length = 4:=rfl
theorem rmC_one (x:RcM):∀ u ∈ rmC x,u.oneCell' = true:=by
 intro u hu;simp at hu;rcases hu with rfl | rfl | rfl | rfl <;> rfl
structure RowAt (W w:World) (ra:Option Addr) (rc:Nat) (R:List RcM):Prop where
 o:w.ownsRow W.heap.size 167 4 (.slice ra R.length rc) R.length (R.flatMap rmC)
 d:∀ x ∈ R,OwnX W w x.a x.c x.r.d
theorem RowAt.nil (W w:World):RowAt W w none 0 []:=⟨World.ownsRow_nil _ _ _ _,fun _ h => by cases h⟩
theorem RowAt.grx {S:List Nat} {W w w':World} {ra:Option Addr} {rc:Nat} {R:List RcM} (h:RowAt W w ra rc R) (g:GrX S w w') (h1:∀ x,ra = some x→x.block ∉ S) (h2:∀ x ∈ R,∀ y,x.a = some y→y.block ∉ S):RowAt W w' ra rc R :=
 ⟨owns_grx h.o g fun k hk => by
  cases ra with
  | none => cases hk
  | some x => cases hk;exact h1 x rfl,fun x hx => (h.d x hx).grx g (h2 x hx)⟩
theorem RowAt.gr {W w w':World} {ra:Option Addr} {rc:Nat} {R:List RcM} (h:RowAt W w ra rc R) (g:Gr w w'):RowAt W w' ra rc R:=h.grx (S:=[]) (g.x []) (fun _ _ hb => by cases hb) (fun _ _ _ _ hb => by cases hb)
theorem RowAt.set {W w:World} {ra:Option Addr} {rc:Nat} {R:List RcM} (h:RowAt W w ra rc R) {p:Addr} (h1:∀ x,ra = some x→x.block ≠ p.block) (h2:∀ x ∈ R,∀ y,x.a = some y→y.block ≠ p.block) (u:Value):RowAt W (w.setCell p u) ra rc R :=
 h.grx (S:=[p.block]) ((GrX.refl _ _).set (.inl (by simp)) u) (fun x hx => by simpa using h1 x hx) (fun x hx y hy => by simpa using h2 x hx y hy)
theorem RowAt.cell {W w:World} {ra:Option Addr} {rc:Nat} {R:List RcM} (h:RowAt W w ra rc R) {k:Nat} {x:RcM} (hx:R[k]? = some x):∃ b off,ra = some ⟨b,off,none⟩∧b < w.heap.size∧w.cell? ⟨b,off + k * 4,none⟩ = some (.int .i64 x.r.g)∧w.cell? ⟨b,off + k * 4 + 1,none⟩ = some (.int .i64 x.r.e)∧w.cell? ⟨b,off + k * 4 + 2,none⟩ = some (.int .i64 x.r.i)∧w.cell? ⟨b,off + k * 4 + 3,none⟩ = some (.slice x.a x.r.d.length x.c):=by
 obtain ⟨a0,c0,e0,hrec,-,-⟩:=recs_of_owns rmC_len h.o;obtain ⟨b,off,hag,hb,hcl⟩:=hrec k x hx;injection e0 with p q r
 exact ⟨b,off,p.trans hag,hb,hcl 0 _ rfl,hcl 1 _ rfl,hcl 2 _ rfl,hcl 3 _ rfl⟩
abbrev arC (f n u:Nat) (ra:Option Addr) (k rc:Nat):Array Value:=#[.int .i64 f,.int .i64 n,.int .i64 u,.slice ra k rc]
theorem number_area (W w:World) (ab f n u:Nat) (ra:Option Addr) (rc:Nat) (R:List RcM) (hB:Blk w ab (arC f n u ra R.length rc) 158) (hR:RowAt W w ra rc R) :
 Calls Tryz.prog 75 #[.pointer (some ⟨ab,0,none⟩)] w fun e w' => e = .returned (.int .i64 (numF (R.map (·.r)):Int))∧w' = w:=by
 have z:=hB.lt;have c3:=hB.cell (i:=3) (v:=.slice ra R.length rc) rfl;replace hB:=Lib.hid hB;cases R with
 | nil =>
  replace hR:=Lib.hid hR;go_enter Tryz.func75,Tryz.ntmps75;go_wp2_with fail;go_ret;exact ⟨rfl,rfl⟩
 | cons x R =>
  obtain ⟨b,off,rfl,hb,d0,-⟩:=hR.cell (k:=0) rfl;simp only [Nat.zero_mul,Nat.add_zero] at d0;obtain ⟨m,hm⟩:∃ m,m = R.length:=⟨_,rfl⟩
  rw [List.length_cons,← hm] at c3;have hn1:((m:Int) + 1 == 0) = false:=beq_eq_false_iff_ne.2 (by omega);replace hR:=Lib.hid hR;replace hm:=Lib.hid hm;go_enter Tryz.func75,Tryz.ntmps75;go_wp2_with fail;go_ret;exact ⟨rfl,rfl⟩
theorem folF_nil (r:Rc):folF [] r ↔ r.i = 0∧1≤r.g:=Iff.rfl
theorem folF_snoc (rs:List Rc) (l r:Rc):folF (rs ++ [l]) r ↔ r.i = rs.length + 1∧r.g = l.g∧l.e≤r.e:=by
 unfold folF;rw [List.getLast?_append,List.getLast?_singleton];simp
theorem follows_nil (w:World) (ab f n u rc:Nat) (ra:Option Addr) (hB:Blk w ab (arC f n u ra 0 rc) 158) (r:Rc) (a:Option Addr) (c:Nat) :
 Calls Tryz.prog 154 #[.pointer (some ⟨ab,0,none⟩),rcV r a c] w fun e w' => e = .returned (.bool (decide (folF [] r)))∧Gr w w':=by
 have ga:Gr w (w.alloc (.cells (rcC r a c).toArray 167)):=(Gr.refl w).alloc _;obtain ⟨wA,hwA⟩:∃ wA,wA = w.alloc (.cells (rcC r a c).toArray 167):=⟨_,rfl⟩
 rw [← hwA] at ga;have hR:Blk wA w.heap.size (rcC r a c).toArray 167:=by rw [hwA];exact Blk.new _ _ _
 have hB:=hB.gr ga;have z:=hB.lt;have c3:=hB.cell (i:=3) (v:=.slice ra 0 rc) rfl;have zR:=hR.lt;have r0:=hR.cell (i:=0) (v:=.int .i64 r.g) rfl;have r2:=hR.cell (i:=2) (v:=.int .i64 r.i) rfl;replace hB:=Lib.hid hB;replace hR:=Lib.hid hR;replace hwA:=Lib.hid hwA;have hd:decide (folF [] r) = (decide (r.i = 0) && decide (1≤r.g)):=by rw [← Bool.decide_and];exact decide_eq_decide.2 (folF_nil r)
 rw [hd];clear hd;by_cases h1:r.i = 0
 ·have t1:((r.i:Int) == 0) = true:=by rw [h1];rfl
  have hb2:decide (1≤r.g) = decide ((1:Int)≤r.g):=decide_eq_decide.2 (by omega);rw [hb2,show decide (r.i = 0) = true from decide_eq_true h1,Bool.true_and];clear hb2;replace h1:=Lib.hid h1;obtain ⟨b,hb⟩:∃ b,b = decide ((1:Int)≤r.g):=⟨_,rfl⟩
  go_enter Tryz.func154,Tryz.ntmps154;go_upto_region 1 with fail
  rw [← hwA.out];go_wp2_with fail;go_ret;exact ⟨rfl,ga⟩
 ·have t1:((r.i:Int) == 0) = false:=beq_eq_false_iff_ne.2 (by omega);rw [show decide (r.i = 0) = false from decide_eq_false h1,Bool.false_and];replace h1:=Lib.hid h1;go_enter Tryz.func154,Tryz.ntmps154;go_upto_region 1 with fail
  rw [← hwA.out];go_wp2_with fail;go_ret;exact ⟨rfl,ga⟩
set_option maxRecDepth 100000 in
set_option maxHeartbeats 3200000 in
theorem follows_snoc (W w:World) (ab f n u rc:Nat) (ra:Option Addr) (R:List RcM) (l:RcM) (hB:Blk w ab (arC f n u ra (R ++ [l]).length rc) 158) (hR:RowAt W w ra rc (R ++ [l])) (r:Rc) (a:Option Addr) (c:Nat) (hmm:R.length≤1000000) :
 Calls Tryz.prog 154 #[.pointer (some ⟨ab,0,none⟩),rcV r a c] w fun e w' => e = .returned (.bool (decide (folF ((R ++ [l]).map (·.r)) r)))∧Gr w w':=by
 have hd:decide (folF ((R ++ [l]).map (·.r)) r) = (decide (r.i = R.length + 1) && (decide (r.g = l.r.g) && decide (l.r.e≤r.e))):=by
  rw [List.map_append];have h2:=folF_snoc (R.map (·.r)) l.r r;rw [List.length_map] at h2;rw [← Bool.decide_and,← Bool.decide_and];exact decide_eq_decide.2 h2
 rw [hd];clear hd;obtain ⟨b,off,rfl,hb,d0,d1,d2,d3⟩:=hR.cell (k:=R.length) (x:=l) (by simp);obtain ⟨m,hm⟩:∃ m,m = R.length:=⟨_,rfl⟩
 rw [List.length_append,List.length_singleton,← hm] at hB;rw [← hm] at d0 d1 d2 d3 hmm ⊢;have ga:Gr w (w.alloc (.cells (rcC r a c).toArray 167)):=(Gr.refl w).alloc _;obtain ⟨wA,hwA⟩:∃ wA,wA = w.alloc (.cells (rcC r a c).toArray 167):=⟨_,rfl⟩
 rw [← hwA] at ga;have hK:Blk wA w.heap.size (rcC r a c).toArray 167:=by rw [hwA];exact Blk.new _ _ _
 have hn1:((m:Int) + 1 == 0) = false:=beq_eq_false_iff_ne.2 (by omega);obtain ⟨wC,hwC⟩:∃ wC,wC = (wA.alloc (.cells (rmC l).toArray 167)).drew:=⟨_,rfl⟩
 have gC:Gr wA wC:=by rw [hwC];exact ((Gr.refl _).alloc _).drew
 obtain ⟨nC,hnC⟩:∃ nC,nC = wA.heap.size:=⟨_,rfl⟩
 have hL:Blk wC nC (rmC l).toArray 167:=by rw [hwC,hnC];exact (Blk.new _ _ _).drew
 have hB1:=hB.gr ga;have hK2:=hK.gr gC;have hB2:=hB1.gr gC;have z:=hB1.lt;have c3:=hB1.cell (i:=3) (v:=.slice (some ⟨b,off,none⟩) (m + 1) rc) rfl;have gg:=ga.cells;have e0:wA.cell? ⟨b,off + m * 4,none⟩ = some (.int .i64 l.r.g):=by rw [gg.1 _ _ hb];exact d0
 have e1:wA.cell? ⟨b,off + m * 4 + 1,none⟩ = some (.int .i64 l.r.e):=by rw [gg.1 _ _ hb];exact d1
 have e2:wA.cell? ⟨b,off + m * 4 + 2,none⟩ = some (.int .i64 l.r.i):=by rw [gg.1 _ _ hb];exact d2
 have e3:wA.cell? ⟨b,off + m * 4 + 3,none⟩ = some (.slice l.a l.r.d.length l.c):=by rw [gg.1 _ _ hb];exact d3
 have hbA:b < wA.heap.size:=Nat.lt_of_lt_of_le hb ga.size;have z2:=hB2.lt;have s3:=hB2.cell (i:=3) (v:=.slice (some ⟨b,off,none⟩) (m + 1) rc) rfl;have zR:=hK2.lt;have r0:=hK2.cell (i:=0) (v:=.int .i64 r.g) rfl;have r1:=hK2.cell (i:=1) (v:=.int .i64 r.e) rfl;have r2:=hK2.cell (i:=2) (v:=.int .i64 r.i) rfl;have zL:=hL.lt;have l0:=hL.cell (i:=0) (v:=.int .i64 l.r.g) rfl;have l1:=hL.cell (i:=1) (v:=.int .i64 l.r.e) rfl;have gz:=ga.trans gC;clear gg d0 d1 d2 d3;have q1:IntKind.i64.wrap (m:Int) = (m:Int):=wraps_i64 _ (by omega) (by omega);have q2:wrap64 (m:Int) = (m:Int):=by unfold wrap64;omega
 have q3:(0:Int)≤(m:Int)∧(m:Int) < (m:Int) + 1:=by omega
 replace hB:=Lib.hid hB;replace hB1:=Lib.hid hB1;replace hB2:=Lib.hid hB2;replace hR:=Lib.hid hR;replace hK:=Lib.hid hK;replace hK2:=Lib.hid hK2;replace hL:=Lib.hid hL;replace hm:=Lib.hid hm;replace hwA:=Lib.hid hwA;replace hwC:=Lib.hid hwC;replace hnC:=Lib.hid hnC;by_cases h1:r.i = m + 1
 ·have t1:((r.i:Int) == (m:Int) + 1) = true:=by rw [h1];simp
  rw [show decide (r.i = m + 1) = true from decide_eq_true h1,Bool.true_and];replace h1:=Lib.hid h1;by_cases h2:r.g = l.r.g
  ·have t2:((r.g:Int) == (l.r.g:Int)) = true:=by rw [h2];simp
   rw [show decide (r.g = l.r.g) = true from decide_eq_true h2,Bool.true_and];replace h2:=Lib.hid h2;go_enter Tryz.func154,Tryz.ntmps154;go_upto_region 1 with fail
   rw [← hwA.out];go_upto_region 3 with fail
   go_region;go_upto_region 4 with fail
   rw [← hwC.out];rw [← hnC.out];go_quiet (fail);go_wp2_with fail;go_ret;exact ⟨rfl,gz.drewN _⟩
  ·have t2:((r.g:Int) == (l.r.g:Int)) = false:=beq_eq_false_iff_ne.2 (by omega);rw [show decide (r.g = l.r.g) = false from decide_eq_false h2,Bool.false_and];replace h2:=Lib.hid h2;go_enter Tryz.func154,Tryz.ntmps154;go_upto_region 1 with fail
   rw [← hwA.out];go_upto_region 3 with fail
   go_region;go_upto_region 4 with fail
   rw [← hwC.out];rw [← hnC.out];go_quiet (fail);go_wp2_with fail;go_ret;exact ⟨rfl,gz.drewN _⟩
 ·have t1:((r.i:Int) == (m:Int) + 1) = false:=beq_eq_false_iff_ne.2 (by omega);rw [show decide (r.i = m + 1) = false from decide_eq_false h1,Bool.false_and];replace h1:=Lib.hid h1;go_enter Tryz.func154,Tryz.ntmps154;go_upto_region 1 with fail
  rw [← hwA.out];go_upto_region 3 with fail
  go_region;go_upto_region 4 with fail
  rw [← hwC.out];rw [← hnC.out];go_quiet (fail);go_wp2_with fail;go_ret;exact ⟨rfl,gz.drewN _⟩
theorem owns_apart {w:World} {B B':Nat} {e e':TypeId} {k k':Nat} {v v':Value} {n n':Nat} {xs xs':List Value} (h:w.ownsRow B e k v n xs) (h':w.ownsRow B' e' k' v' n' xs') (he:e ≠ e') {g:Nat} (hg:v.ownBlock = some g):v'.ownBlock ≠ some g:=by
 intro hg';rcases h.2 with ⟨h1,_⟩ | ⟨g1,c1,u1,h1,_,h3,_⟩
 ·rw [h1] at hg;cases hg
 ·rcases h'.2 with ⟨h1',_⟩ | ⟨g2,c2,u2,h1',_,h3',_⟩
  ·rw [h1'] at hg';cases hg'
  ·rw [h1] at hg;rw [h1'] at hg';simp [Value.ownBlock] at hg hg';subst hg hg';rw [h3] at h3';injection h3' with h4
   injection h4 with _ h5 _
   exact he h5
theorem Tryz.infoBS:((Tryz.prog.info? 91).map fun i => (i.zero,i.size,i.bytes)) = some (some (.slice none 0 0),1,24):=by kernel_rfl
theorem Tryz.infoRc:((Tryz.prog.info? 167).map fun i => (i.zero,i.size,i.bytes)) = some (some (.agg rcZ),4,48):=by kernel_rfl
theorem place_of {v v':Value} {a' a1:Option Addr} {n n' c c' N:Nat} (h1:v = .slice a1 n c) (h2:v' = .slice a' n' c') (hat:v'.ownBlock = v.ownBlock ∨ v'.ownBlock = some N):∀ y,a' = some y→(∃ z,a1 = some z∧y.block = z.block) ∨ y.block = N:=by
 intro y hy;subst h1 h2 hy;rcases hat with h1 | h1
 ·cases a1 with
  | none => cases h1
  | some z => exact .inl ⟨z,rfl,Option.some.inj h1⟩
 ·exact .inr (Option.some.inj h1)
theorem wpList_appS {B:Nat} {w:World} {ops:Array Oper} {rest:List Oper} {o:Oper} {a:Act} {Q:Exit→Act→World→Prop} (hgd:o.guard = none) (s x:Operand)
 (ho:o.op = .call { callee:=.builtin .append,args:=#[s,x],argTypes:=#[109,109] }) (a1:Option Addr) (c1 n1:Nat) (L1:List (Nat × List UInt8)) (hs:a.eval s = .slice a1 n1 c1) (hn:L1.length = n1) (hO:w.ownsRow B 91 1 (.slice a1 n1 c1) L1.length (L1.flatMap secS))
 (tb:Nat) (y:Nat × List UInt8) (hx:a.eval x = .slice (some ⟨tb,0,none⟩) 1 1) (hl:RecsAt 1 secS w (some ⟨tb,0,none⟩) [y]) (hb:n1 + 1≤1000000) (hB:B≤w.heap.size)
 (h:∀ a' c' w',w'.ownsRow B 91 1 (.slice a' (n1 + 1) c') (L1 ++ [y]).length ((L1 ++ [y]).flatMap secS)→RecsAt 1 secS w' a' (L1 ++ [y])→(∀ z,a' = some z→B≤z.block)→w.grownBy w' (Value.slice a1 n1 c1).ownBlock→(∀ z,a' = some z→(∃ q,a1 = some q∧z.block = q.block) ∨ z.block = w.heap.size)→n1 + 1≤c'→wpList Tryz.prog ops Q rest (a.put o.dst (.slice a' (n1 + 1) c')) w'):wpList Tryz.prog ops Q (o :: rest) a w:=by
 subst hn;obtain ⟨i5,hi,hz0,hz1,hz2⟩:=info_parts Tryz.infoBS;refine wpList_append_at (k:=1) (enc:=secS) hgd s x 109 ho B 91 i5 _ 24 Tryz.underlying109 hi hz0 hz1 hz2 rfl (by decide) secS_len secS_one (.slice a1 L1.length c1) L1 hs hO (some ⟨tb,0,none⟩) 1 [y] hx hl (fun h => by cases h) (by simp;unfold maxLen;omega) (by simp;omega) hB ?_;intro v2 w2 hown2 hgr2 hat;have hl2:(L1 ++ [y]).length = L1.length + 1:=by simp
 obtain ⟨a2,c2,hv2,hr2,hn2,hB2⟩:=recs_of_owns secS_len hown2;subst hv2;have hcap:L1.length + 1≤c2:=by
  have hu:=hown2.2;rw [hl2] at hu;rcases hu with ⟨h1,h2⟩ | ⟨g1,c9,u1,h1,h2,h3,h4,h5⟩
  ·injection h1 with p q r
   omega
  ·injection h1 with p q r
   omega
 have hpl:=place_of rfl rfl hat;rw [hl2] at hown2 ⊢;exact h a2 c2 w2 (by rw [hl2];exact hown2) hr2 hB2 hgr2 hpl hcap
theorem OwnX.grown {W w w':World} {a:Option Addr} {c:Nat} {l:List UInt8} (h:OwnX W w a c l) {row:Option Nat} (g:w.grownBy w' row) (h1:∀ x,a = some x→some x.block ≠ row):OwnX W w' a c l :=
 have gx:GrX (row.toList) w w':=⟨g.os,g.tape,g.output,g.size,fun k hk hn => g.block k hk (fun e => hn (by rw [← e];simp))⟩
 h.grx gx (fun x hx hb => h1 x hx (by cases row with | none => cases hb | some q => simp at hb;rw [hb]))
theorem OwnX.rows {W w:World} {a:Option Addr} {c:Nat} {l:List UInt8} (h:OwnX W w a c l) {ra:Option Addr} {rc n:Nat} {xs:List Value} {B:Nat} (ho:w.ownsRow B 167 4 (.slice ra n rc) n xs):∀ x,a = some x→some x.block ≠ (Value.slice ra n rc).ownBlock:=fun x hx e => by
 subst hx;exact owns_apart h.1 ho (by decide) rfl e.symm
theorem wpList_appRc {W w:World} {ops:Array Oper} {rest:List Oper} {o:Oper} {a:Act} {Q:Exit→Act→World→Prop} (hgd:o.guard = none) (s x:Operand)
 (ho:o.op = .call { callee:=.builtin .append,args:=#[s,x],argTypes:=#[156,156] }) (ra:Option Addr) (rc n:Nat) (R:List RcM) (hs:a.eval s = .slice ra n rc) (hn:R.length = n) (hR:RowAt W w ra rc R)
 (tb:Nat) (y:RcM) (hx:a.eval x = .slice (some ⟨tb,0,none⟩) 1 1) (hT:RecsAt 4 rmC w (some ⟨tb,0,none⟩) [y]) (hy:OwnX W w y.a y.c y.r.d) (hb:n + 1≤1000000) (hW:W.heap.size≤w.heap.size)
 (h:∀ ra' rc' w',RowAt W w' ra' rc' (R ++ [y])→w.grownBy w' (Value.slice ra n rc).ownBlock→(∀ z,ra' = some z→(∃ q,ra = some q∧z.block = q.block) ∨ z.block = w.heap.size)→wpList Tryz.prog ops Q rest (a.put o.dst (.slice ra' (n + 1) rc')) w'):wpList Tryz.prog ops Q (o :: rest) a w:=by
 subst hn;obtain ⟨i5,hi,hz0,hz1,hz2⟩:=info_parts Tryz.infoRc;refine wpList_append_at (k:=4) (enc:=rmC) hgd s x 156 ho W.heap.size 167 i5 _ 48 Tryz.underlying156 hi hz0 hz1 hz2 rfl (by decide) rmC_len rmC_one (.slice ra R.length rc) R hs hR.o (some ⟨tb,0,none⟩) 1 [y] hx hT (fun h => by cases h) (by simp;unfold maxLen;omega) (by simp;omega) hW ?_;intro v2 w2 hown2 hgr2 hat;have hl2:(R ++ [y]).length = R.length + 1:=by simp
 obtain ⟨a2,c2,hv2,-,-,-⟩:=recs_of_owns rmC_len hown2;subst hv2;have hpl:=place_of rfl rfl hat;have hrow:RowAt W w2 a2 c2 (R ++ [y]):=⟨hown2,fun z hz => by
  rcases List.mem_append.1 hz with h1 | h1
  ·exact (hR.d z h1).grown hgr2 ((hR.d z h1).rows hR.o)
  ·rw [List.mem_singleton.1 h1];exact hy.grown hgr2 (hy.rows hR.o)⟩
 rw [hl2] at *;exact h a2 c2 w2 hrow hgr2 hpl
end Go.Proofs.YteigofaccjaobaaGreatDoor
