/- almonerref12.Drain where servers fit; almonerref13: fits, stay. Printed by gen_f6.py. -/
import Derived.Test.YtdfelohjdkcpkaaGreatDoorK19
import Derived.Test.YtdfelohjdkcpkaaGreatDoorK20
import Derived.Test.YtdfelohjdkcpkaaGreatDoorK18
import Derived.Test.YtdfelohjdkcpkaaGreatDoorK9
namespace Go.Proofs.YtdfelohjdkcpkaaGreatDoor
open Go.RowKit
theorem own_till {B:Nat} {w:World} {T:TM} {gb i:Nat} {x:Gh} (h:OwnT B w T) (hgb:T.ag = some ⟨gb,0,none⟩) (hx:T.G[i]? = some x) (m:Int) {w':World} (hw:w' = w.setCell ⟨gb,i * 5 + 4,none⟩ (.int .i64 m)):GrX [gb] w w'∧OwnT B w' ⟨T.N,T.an,T.cn,T.G.set i ⟨x.par,x.srv,m⟩,T.ag,T.cg,T.last,T.now⟩:=by
 have g:GrX [gb] w w':=by rw [hw];exact (GrX.refl _ _).set (.inl (by simp)) _
 have hl:(T.G.set i ⟨x.par,x.srv,m⟩).length = T.G.length:=List.length_set;have hob:(Value.slice T.ag T.G.length T.cg).ownBlock = some gb:=by rw [hgb];rfl
 refine ⟨g,h.ghosts g (fun k hk hm => ?_) (fun y hy ad ha ht hm => ?_) _ _ ?_ (fun y hy ad ha ht => ?_) (by rw [hl];exact h.l2)⟩
 ·rw [List.mem_singleton.1 hm] at hk;exact owns_apart h.n h.g (by decide) hk hob
 ·have:=h.dg y hy ad ha ht;rw [hob,List.mem_singleton.1 hm] at this;exact this rfl
 ·rw [hl];have h0:=h.g;rw [hgb] at h0 ⊢;have h3:=owns_set h0 (i * 5 + 4) (.int .i64 m);rw [flat_set Gh.cells_len hx (j:=4) (by decide) (v:=.int .i64 m) (y:=⟨x.par,x.srv,m⟩) rfl] at h3;rw [hw];exact h3
 ·rw [hl];exact h.dg y hy ad ha ht
theorem GrX.new {L S:List Nat} {a b c:World} (h:GrX L a b) (g:GrX S b c) (hS:∀ y,y ∈ S→a.heap.size≤y):GrX L a c :=
 ⟨g.os.trans h.os,g.tape.trans h.tape,g.output.trans h.output,Nat.le_trans h.size g.size,fun k hk hn => (g.block k (Nat.lt_of_lt_of_le hk h.size) (fun hm => by have:=hS k hm;omega)).trans (h.block k hk hn)⟩
theorem OwnT.far {B n0:Nat} {S:List Nat} {w w':World} {T:TM} (h:OwnT B w T) (g:GrX S w w') (hS:∀ y,y ∈ S→n0≤y) (ha:∀ k,(Value.slice T.an T.N.length T.cn).ownBlock = some k→k < n0) (hb:∀ k,(Value.slice T.ag T.G.length T.cg).ownBlock = some k→k < n0) (ht:∀ x ∈ T.N,∀ ad,x.a = some ad→x.e.tasks ≠ []→ad.block < n0):OwnT B w' T :=
 h.ghosts g (fun k hk hm => by have:=hS k hm;have:=ha k hk;omega) (fun x hx ad h1 h2 hm => by have:=hS _ hm;have:=ht x hx ad h1 h2;omega) _ _ (owns_gx h.g g (fun k hk hm => by have:=hS k hm;have:=hb k hk;omega)) h.dg h.l2
theorem drainI_le (s:Srv) (l:List Srv):drainI s l≤4096:=by
 unfold drainI;cases hf:(List.range 4096).find? (fun (k:Nat) => decide (reqsI l ((k:Int) + 1)≤givI (rowI s) ((k:Int) + 1))) with
 | none => simp
 | some n =>
  have:=List.mem_of_find?_eq_some hf;simp at this ⊢;omega
set_option maxRecDepth 100000 in
set_option maxHeartbeats 6400000 in
theorem rdrain12_ok (s:Srv) (a:Option Addr) (l:List Srv) (c:Nat) (w:World) (hl:SrvsAt w a l) (hk:kidsErr s l = none) (hm:l.length≤maxLen) :
 Calls Tryz.prog 58 #[.agg #[.int .i64 s.k,.int .i64 s.q,.int .i64 s.t],.slice a l.length c] w fun e w' => e = .returned (.tuple #[.int .i64 (drainI s l),.int .i64 0])∧Gr w w':=by
 have hkd:=fun w' (g:Gr w w') => rkids12_any s a l c w' (hl.gr g) hm
 rw [hk] at hkd;obtain ⟨hp,hse,-,-⟩:=kids_parts hk;obtain ⟨hal,h8⟩:=srvErr_none hse;have hrow:=rowI_ok hp;have hsome:=drain_some hk;have hg0:givI (rowI s) 0 = 0:=by
  have h1:=giv_nonneg hrow 0;have h2:=giv_le hrow (l:=0) (Int.le_refl _);omega
 replace hg0:=Lib.hid hg0;obtain ⟨W,hW⟩:∃ W,W = w.alloc (.cells #[.int .i64 s.k,.int .i64 s.q,.int .i64 s.t] 29):=⟨_,rfl⟩
 have gW:Gr w W:=by rw [hW];exact (Gr.refl w).alloc _
 have hB:Blk W (w.heap.size) #[.int .i64 s.k,.int .i64 s.q,.int .i64 s.t] 29:=by
  rw [hW];have:=Blk.new (w) #[.int .i64 s.k,.int .i64 s.q,.int .i64 s.t] 29;exact this
 have hWz:W.heap.size = w.heap.size + 1:=by rw [hW];simp
 have b0:=hB.cell (i:=0) (v:=.int .i64 s.k) rfl;have b1:=hB.cell (i:=1) (v:=.int .i64 s.q) rfl;have b2:=hB.cell (i:=2) (v:=.int .i64 s.t) rfl;replace hW:=Lib.hid hW;replace hB:=Lib.hid hB;replace hp:=Lib.hid hp;replace hse:=Lib.hid hse;replace hal:=Lib.hid hal;replace hrow:=Lib.hid hrow;replace hl:=Lib.hid hl;replace hk:=Lib.hid hk;replace hsome:=Lib.hid hsome;replace hkd:=Lib.hid hkd;go_enter Tryz.func58,Tryz.ntmps58;go_upto_region 1 with fail
 rw [← hW.out];go_wp2_with fail;refine (hkd.out W gW).mono ?_;rintro e w4 ⟨cc,rfl,hcc,g4⟩;obtain rfl:cc = 0:=hcc.2 rfl;clear hcc;have gA4:=gW.trans g4;have hB4:=hB.out.gr g4;clear b0 b1 b2;replace hB4:=Lib.hid hB4;go_wp2_with fail;go_loopw [7,8] (fun sv iv wr => ∃ n:Nat,1≤n∧n≤4097∧sv = .int .i64 (givI (rowI s) ((n:Int) - 1))∧iv = .int .i64 n∧(∀ j:Nat,1≤j→j < n→givI (rowI s) j < reqsI l j)∧Gr w4 wr) (fun _ iv _ => 4097 - (intOf iv).toNat);case atStart => exact ⟨1,by omega,by omega,by rw [show ((1:Nat):Int) - 1 = 0 by omega,hg0.out],rfl,(fun j h1 h2 => by omega),Gr.refl _⟩
 case round =>
  obtain ⟨n,n1,n2,rfl,rfl,hall,hg5⟩:=hrel;replace hall:=Lib.hid hall;by_cases hn:n≤4096
  ·have tn:(n:Int)≤4096:=by omega
   have tnb:decide ((n:Int)≤4096) = true:=decide_eq_true tn;have hwn:IntKind.i64.wrap ((n:Int) - 1) = (n:Int) - 1:=by rw [IntKind.wrap_i64] <;> omega
   have hst:=giv_step hrow.out (i:=(n:Int) - 1);rw [show (n:Int) - 1 + 1 = n by omega] at hst;have hgb:=giv_nonneg hrow.out ((n:Int) - 1);have hgu:=giv_le hrow.out (l:=(n:Int) - 1) (by omega);have hat:=at10_all s ((n:Int) - 1) wr hp.out (by omega) (by omega);have hB5:=hB4.out.gr hg5;have b0:=hB5.cell (i:=0) (v:=.int .i64 s.k) rfl;have b1:=hB5.cell (i:=1) (v:=.int .i64 s.q) rfl;have b2:=hB5.cell (i:=2) (v:=.int .i64 s.t) rfl;have gA5:=gA4.trans hg5;replace hB5:=Lib.hid hB5;cases ha:atI (rowI s) ((n:Int) - 1) with
   | true =>
    rw [ha] at hat hst;replace ha:=Lib.hid ha;replace hat:=Lib.hid hat;rw [if_pos rfl] at hst;have hw1:IntKind.i64.wrap (givI (rowI s) ((n:Int) - 1) + 1) = givI (rowI s) n:=by rw [hst,IntKind.wrap_i64] <;> omega
    replace hst:=Lib.hid hst;go_wp2_with fail;refine hat.out.mono ?_;rintro e w5 ⟨rfl,g5⟩;have hsv:=rrequests11_any a l c n w5 (hl.out.gr (gA5.trans g5)) hal.out h8 ⟨by omega,by omega⟩;clear b0 b1 b2;by_cases tg:sumI (fun s => reqI s (n:Int)) l≤givI (rowI s) n
    ·have tgb:decide (sumI (fun s => reqI s (n:Int)) l≤givI (rowI s) n) = true:=decide_eq_true tg;have hdn:drainI s l = n:=drainI_of n1 hn (by unfold reqsI;exact tg) (fun k k1 k2 => Int.not_le.2 (hall.out k k1 k2));replace hdn:=Lib.hid hdn;replace hsv:=Lib.hid hsv;go_wp2_with fail;refine hsv.out.mono ?_;rintro e w6 ⟨rfl,g6⟩;go_wp2_with fail;go_ret2;exact ⟨by rw [hdn.out];rfl,(gA5.trans g5).trans g6⟩
    ·have tgb:decide (sumI (fun s => reqI s (n:Int)) l≤givI (rowI s) n) = false:=decide_eq_false tg;have hall2:∀ j:Nat,1≤j→j < n + 1→givI (rowI s) j < reqsI l j:=fun j j1 j2 => by
      by_cases hj:j < n
      ·exact hall.out j j1 hj
      ·obtain rfl:j = n:=by omega
       unfold reqsI;exact Int.not_le.1 tg
     replace hall2:=Lib.hid hall2;replace hsv:=Lib.hid hsv;go_wp2_with fail;refine hsv.out.mono ?_;rintro e w6 ⟨rfl,g6⟩;go_wp2_with fail;go_roundw;case rel => exact ⟨n + 1,by omega,by omega,by rw [show ((n + 1:Nat):Int) - 1 = n by omega],by go_num,hall2.out,(hg5.trans g5).trans g6⟩
     case measure => simp [intOf];omega
   | false =>
    rw [ha] at hat hst;replace ha:=Lib.hid ha;replace hat:=Lib.hid hat;rw [if_neg (by decide),Int.add_zero] at hst;replace hst:=Lib.hid hst;go_wp2_with fail;refine hat.out.mono ?_;rintro e w5 ⟨rfl,g5⟩;have hsv:=rrequests11_any a l c n w5 (hl.out.gr (gA5.trans g5)) hal.out h8 ⟨by omega,by omega⟩;clear b0 b1 b2;by_cases tg:sumI (fun s => reqI s (n:Int)) l≤givI (rowI s) ((n:Int) - 1)
    ·have tgb:decide (sumI (fun s => reqI s (n:Int)) l≤givI (rowI s) ((n:Int) - 1)) = true:=decide_eq_true tg;have hdn:drainI s l = n:=drainI_of n1 hn (by unfold reqsI;rw [hst.out];exact tg) (fun k k1 k2 => Int.not_le.2 (hall.out k k1 k2));replace hdn:=Lib.hid hdn;replace hsv:=Lib.hid hsv;go_wp2_with fail;refine hsv.out.mono ?_;rintro e w6 ⟨rfl,g6⟩;go_wp2_with fail;go_ret2;exact ⟨by rw [hdn.out];rfl,(gA5.trans g5).trans g6⟩
    ·have tgb:decide (sumI (fun s => reqI s (n:Int)) l≤givI (rowI s) ((n:Int) - 1)) = false:=decide_eq_false tg;have hall2:∀ j:Nat,1≤j→j < n + 1→givI (rowI s) j < reqsI l j:=fun j j1 j2 => by
      by_cases hj:j < n
      ·exact hall.out j j1 hj
      ·obtain rfl:j = n:=by omega
       unfold reqsI;rw [hst.out];exact Int.not_le.1 tg
     replace hall2:=Lib.hid hall2;replace hsv:=Lib.hid hsv;go_wp2_with fail;refine hsv.out.mono ?_;rintro e w6 ⟨rfl,g6⟩;go_wp2_with fail;go_roundw;case rel => exact ⟨n + 1,by omega,by omega,by rw [show ((n + 1:Nat):Int) - 1 = n by omega];rw [hst.out],by go_num,hall2.out,(hg5.trans g5).trans g6⟩
     case measure => simp [intOf];omega
  ·exact absurd hsome.out (Int.not_le.2 (hall.out 4096 (by omega) (by omega)))
set_option maxRecDepth 100000 in
set_option maxHeartbeats 3200000 in
theorem rfits_any (T:TM) (id:Int) (a:Option Addr) (l:List Srv) (c:Nat) (w:World) (hT:TreeAt Any w T) (hp:∀ x ∈ T.N,1≤x.e.id) (hl:SrvsAt w a l) (hm:l.length≤maxLen) :
 Calls Tryz.prog 55 #[.agg T.row,.int .i64 id,.slice a l.length c] w fun e w' => e = .returned (.bool (decide (kidsErr ((T.v.server id).getD rootS) l = none)))∧Gr w w':=by
 obtain ⟨S,hS⟩:∃ S,S = (T.v.server id).getD rootS:=⟨_,rfl⟩
 rw [← hS];obtain ⟨W,hW⟩:∃ W,W = w.alloc (.cells #[.slice T.an T.N.length T.cn,.slice T.ag T.G.length T.cg,.int .i64 T.last,.int .i64 T.now] 27):=⟨_,rfl⟩
 have gW:Gr w W:=by rw [hW];exact (Gr.refl w).alloc _
 have hO:Blk W (w.heap.size) #[.slice T.an T.N.length T.cn,.slice T.ag T.G.length T.cg,.int .i64 T.last,.int .i64 T.now] 27:=by
  rw [hW];have:=Blk.new (w) #[.slice T.an T.N.length T.cn,.slice T.ag T.G.length T.cg,.int .i64 T.last,.int .i64 T.now] 27;exact this
 have hWz:W.heap.size = w.heap.size + 1:=by rw [hW];simp
 have o0:=hO.cell (i:=0) (v:=.slice T.an T.N.length T.cn) rfl;have o1:=hO.cell (i:=1) (v:=.slice T.ag T.G.length T.cg) rfl;have o2:=hO.cell (i:=2) (v:=.int .i64 T.last) rfl;have o3:=hO.cell (i:=3) (v:=.int .i64 T.now) rfl;have hsv:=rsrv_any T id W (hT.gr gW) hp;obtain ⟨R,hR⟩:∃ R,R = decide (kidsErr S l = none):=⟨_,rfl⟩
 rw [← hR];replace hW:=Lib.hid hW;replace hO:=Lib.hid hO;replace hT:=Lib.hid hT;replace hp:=Lib.hid hp;replace hsv:=Lib.hid hsv;replace hl:=Lib.hid hl;replace hS:=Lib.hid hS;replace hR:=Lib.hid hR;replace hWz:=Lib.hid hWz;go_enter Tryz.func55,Tryz.ntmps55;go_upto_region 1 with fail
 rw [← hW.out];go_wp2_with fail;refine hsv.out.mono ?_;rintro e w1 ⟨s,hs,rfl,g1⟩;obtain rfl:s = S:=hs.trans hS.out.symm;clear hs o0 o1 o2 o3;have gA:=gW.trans g1;obtain ⟨w2,hw2⟩:∃ w2,w2 = w1.alloc (.cells #[.int .i64 s.k,.int .i64 s.q,.int .i64 s.t] 29):=⟨_,rfl⟩
 have g2:Gr w1 w2:=by rw [hw2];exact (Gr.refl _).alloc _
 have hB2:Blk w2 w1.heap.size #[.int .i64 s.k,.int .i64 s.q,.int .i64 s.t] 29:=by rw [hw2];exact Blk.new _ _ _
 have hkd:=rkids12_any s a l c w2 (hl.out.gr (gA.trans g2)) hm;replace hw2:=Lib.hid hw2;replace hkd:=Lib.hid hkd;go_upto_region 2 with fail
 rw [← hw2.out];have b0:=hB2.cell (i:=0) (v:=.int .i64 s.k) rfl;have b1:=hB2.cell (i:=1) (v:=.int .i64 s.q) rfl;have b2:=hB2.cell (i:=2) (v:=.int .i64 s.t) rfl;replace hB2:=Lib.hid hB2;go_wp2_with fail;refine hkd.out.mono ?_;rintro e w3 ⟨cc,rfl,hcc,g3⟩;cases hRb:R with
 | true =>
  obtain rfl:cc = 0:=hcc.2 (of_decide_eq_true (hR.out.symm.trans hRb));clear hcc;replace hRb:=Lib.hid hRb;go_wp2_with fail;go_ret;exact ⟨by rw [hRb.out];rfl,(gA.trans g2).trans g3⟩
 | false =>
  have tcc:(cc == 0) = false:=by
   have h1:=of_decide_eq_false (hR.out.symm.trans hRb);have h2:cc ≠ 0:=fun h => h1 (hcc.1 h)
   simpa using h2
  clear hcc;replace hRb:=Lib.hid hRb;go_wp2_with fail;go_ret;exact ⟨by rw [hRb.out];rfl,(gA.trans g2).trans g3⟩
def StayP (B:Nat) (w:World) (T:TM) (p:Int) (e:Ending) (w':World):Prop:=∃ T':TM,e = .returned (.agg T'.row)∧T'.v = T.v.drained p∧OwnT B w' T'∧GrX (T.ag.map (·.block)).toList w w'
set_option maxRecDepth 100000 in
set_option maxHeartbeats 6400000 in
theorem rstay_any (T:TM) (p:Int) (B:Nat) (w:World) (h:OwnT B w T) (hp:∀ x ∈ T.N,1≤x.e.id) (hk:kidsErr ((T.v.server p).getD rootS) (T.v.counted p) = none) (hn1:0≤T.now) (hn2:T.now≤1099511627776) :
 Calls Tryz.prog 56 #[.agg T.row,.int .i64 p] w (StayP B w T p):=by
 obtain ⟨W,hW⟩:∃ W,W = (w.alloc (.cells #[.slice T.an T.N.length T.cn,.slice T.ag T.G.length T.cg,.int .i64 T.last,.int .i64 T.now] 27)).alloc (.cells #[.slice none 0 0,.slice none 0 0,.int .i64 0,.int .i64 0] 27):=⟨_,rfl⟩
 have gW:Gr w W:=by rw [hW];exact ((Gr.refl w).alloc _).alloc _
 have hO:Blk W (w.heap.size) #[.slice T.an T.N.length T.cn,.slice T.ag T.G.length T.cg,.int .i64 T.last,.int .i64 T.now] 27:=by
  rw [hW];have:=Blk.new (w) #[.slice T.an T.N.length T.cn,.slice T.ag T.G.length T.cg,.int .i64 T.last,.int .i64 T.now] 27;exact (this).alloc _
 have hR:Blk W (w.heap.size + 1) #[.slice none 0 0,.slice none 0 0,.int .i64 0,.int .i64 0] 27:=by
  rw [hW];have:=Blk.new ((w).alloc (.cells #[.slice T.an T.N.length T.cn,.slice T.ag T.G.length T.cg,.int .i64 T.last,.int .i64 T.now] 27)) #[.slice none 0 0,.slice none 0 0,.int .i64 0,.int .i64 0] 27;rw [World.size_alloc] at this;exact this
 have hWz:W.heap.size = w.heap.size + 2:=by rw [hW];simp
 have o0:=hO.cell (i:=0) (v:=.slice T.an T.N.length T.cn) rfl;have o1:=hO.cell (i:=1) (v:=.slice T.ag T.G.length T.cg) rfl;have o2:=hO.cell (i:=2) (v:=.int .i64 T.last) rfl;have o3:=hO.cell (i:=3) (v:=.int .i64 T.now) rfl;obtain ⟨S,hS⟩:∃ S,S = (T.v.server p).getD rootS:=⟨_,rfl⟩
 obtain ⟨L,hL⟩:∃ L,L = T.v.counted p:=⟨_,rfl⟩
 rw [← hS,← hL] at hk;have hLl:L.length≤2000000:=by
  have h1:=cntN_len T.N p T.N.length;have h2:=cntG_len T.G p T.G.length;have h3:=h.l1;have h4:=h.l2;rw [hL,cnt_all,List.length_append];omega
 obtain ⟨dd,hdd⟩:∃ dd,dd = drainI S L:=⟨_,rfl⟩
 have hddl:dd≤4096:=by rw [hdd];exact drainI_le S L
 have hdr:T.v.drained p = ⟨T.v.nodes,T.G.map (stayG p (T.now + dd)),T.last,T.now⟩:=by
  unfold TreeV.drained;dsimp only;rw [← hS,← hL,hk,if_pos rfl,← hdd];rfl
 have hsv:=rsrv_any T p W (h.gr gW).at.any hp;have hcn:=fun w' (g:Gr W w') => rcounted_any T p w' ((h.gr gW).gr g).at.any
 rw [← hL] at hcn;have hdn:=fun a c w' (hl:SrvsAt w' a L) => rdrain12_ok S a L c w' hl hk (by unfold maxLen;omega)
 rw [← hdd] at hdn;have hWs:W.heap.size = w.heap.size + 2:=hWz;have hGl:=h.l2;have hbl:=owns_lt h.g;replace hW:=Lib.hid hW;replace hO:=Lib.hid hO;replace hR:=Lib.hid hR;replace h:=Lib.hid h;replace hp:=Lib.hid hp;replace hk:=Lib.hid hk;replace hS:=Lib.hid hS;replace hL:=Lib.hid hL;replace hdd:=Lib.hid hdd;replace hdr:=Lib.hid hdr;replace hsv:=Lib.hid hsv;replace hcn:=Lib.hid hcn;replace hdn:=Lib.hid hdn;replace hWz:=Lib.hid hWz;replace hbl:=Lib.hid hbl;go_enter Tryz.func56,Tryz.ntmps56;go_upto_region 1 with fail
 rw [← hW.out];go_wp2_with fail;refine hsv.out.mono ?_;rintro e w1 ⟨s,hs,rfl,g1⟩;obtain rfl:s = S:=hs.trans hS.out.symm;clear hs o0 o1 o2 o3;obtain ⟨w2,hw2⟩:∃ w2,w2 = w1.alloc (.cells #[.int .i64 s.k,.int .i64 s.q,.int .i64 s.t] 29):=⟨_,rfl⟩
 have g2:Gr w1 w2:=by rw [hw2];exact (Gr.refl _).alloc _
 have hS2:Blk w2 w1.heap.size #[.int .i64 s.k,.int .i64 s.q,.int .i64 s.t] 29:=by rw [hw2];exact Blk.new _ _ _
 have hO2:=(hO.out.gr g1).gr g2;have g1z:=g1.size;have d0:=hO2.cell (i:=0) (v:=.slice T.an T.N.length T.cn) rfl;have d1:=hO2.cell (i:=1) (v:=.slice T.ag T.G.length T.cg) rfl;have d2:=hO2.cell (i:=2) (v:=.int .i64 T.last) rfl;have d3:=hO2.cell (i:=3) (v:=.int .i64 T.now) rfl;have b0:=hS2.cell (i:=0) (v:=.int .i64 s.k) rfl;have b1:=hS2.cell (i:=1) (v:=.int .i64 s.q) rfl;have b2:=hS2.cell (i:=2) (v:=.int .i64 s.t) rfl;replace hw2:=Lib.hid hw2;replace hS2:=Lib.hid hS2;replace hO2:=Lib.hid hO2;go_upto_region 2 with fail
 rw [← hw2.out];go_region_held3 (fun w' => w'.cell? ⟨w.heap.size,0,none⟩ = some (.slice T.an T.N.length T.cn)∧w'.cell? ⟨w.heap.size,1,none⟩ = some (.slice T.ag T.G.length T.cg)∧w'.cell? ⟨w.heap.size,2,none⟩ = some (.int .i64 T.last)∧w'.cell? ⟨w.heap.size,3,none⟩ = some (.int .i64 T.now)∧w'.cell? ⟨w1.heap.size,0,none⟩ = some (.int .i64 s.k)∧w'.cell? ⟨w1.heap.size,1,none⟩ = some (.int .i64 s.q)∧w'.cell? ⟨w1.heap.size,2,none⟩ = some (.int .i64 s.t)) (simp (maxDischargeDepth:=8) [go_sem, *])
  (first
   | (go_at_call 53;(with_reducible refine (hcn.out _ ((g1.trans g2).drew)).mono ?_);rintro e w3 ⟨a3,k3,rfl,hO3,g3⟩;have hT3:=(hO2.out.drew).gr g3;have hS3:=(hS2.out.drew).gr g3;have e0:=hT3.cell (i:=0) (v:=.slice T.an T.N.length T.cn) rfl;have e1:=hT3.cell (i:=1) (v:=.slice T.ag T.G.length T.cg) rfl;have e2:=hT3.cell (i:=2) (v:=.int .i64 T.last) rfl;have e3:=hT3.cell (i:=3) (v:=.int .i64 T.now) rfl;have f0:=hS3.cell (i:=0) (v:=.int .i64 s.k) rfl;have f1:=hS3.cell (i:=1) (v:=.int .i64 s.q) rfl;have f2:=hS3.cell (i:=2) (v:=.int .i64 s.t) rfl;replace hT3:=Lib.hid hT3;replace hS3:=Lib.hid hS3;replace hO3:=Lib.hid hO3)
   | (go_at_call 58;(with_reducible refine (hdn.out a3 k3 w3 (owns_srvs hO3.out)).mono ?_);rintro e w4 ⟨rfl,g4⟩;have hT4:=hT3.out.gr g4;have hS4:=hS3.out.gr g4;have m0:=hT4.cell (i:=0) (v:=.slice T.an T.N.length T.cn) rfl;have m1:=hT4.cell (i:=1) (v:=.slice T.ag T.G.length T.cg) rfl;have m2:=hT4.cell (i:=2) (v:=.int .i64 T.last) rfl;have m3:=hT4.cell (i:=3) (v:=.int .i64 T.now) rfl;have n0:=hS4.cell (i:=0) (v:=.int .i64 s.k) rfl;have n1:=hS4.cell (i:=1) (v:=.int .i64 s.q) rfl;have n2:=hS4.cell (i:=2) (v:=.int .i64 s.t) rfl;replace hT4:=Lib.hid hT4;replace hS4:=Lib.hid hS4)
   | fail)
 clear d0 d1 d2 d3 e0 e1 e2 e3 m0 m2 m3 b0 b1 b2 f0 f1 f2 n0 n1 n2;have gA4:Gr W w4:=((g1.trans g2).drew.trans g3).trans g4;have gw4:=gW.trans gA4;go_wp2_with fail;clear m1;go_loopw [27] (fun iv wr => ∃ i:Nat,i≤T.G.length∧iv = .int .i64 i∧Hid (OwnT B wr ⟨T.N,T.an,T.cn,(T.G.take i).map (stayG p (T.now + dd)) ++ T.G.drop i,T.ag,T.cg,T.last,T.now⟩)∧GrX (T.ag.map (·.block)).toList w4 wr) (fun iv _ => T.G.length - (intOf iv).toNat);case atStart => exact ⟨0,Nat.zero_le _,rfl,Lib.hid (by simpa using h.out.gr gw4),GrX.refl _ _⟩
 case round =>
  obtain ⟨i,hi,rfl,hT,hg⟩:=hrel;have hMl:((T.G.take i).map (stayG p (T.now + dd)) ++ T.G.drop i).length = T.G.length:=by simp;omega
  have hin:∀ y,y ∈ (T.ag.map (·.block)).toList→y < w.heap.size∧B≤y:=fun y hy => by
   cases hta:T.ag with
   | none => rw [hta] at hy;cases hy
   | some q => rw [hta] at hy;simp at hy;subst hy;exact hbl.out _ (by rw [hta];rfl)
  have hOr:=(hT4.out.grx hg (fun hm => by have:=(hin _ hm).1;omega))
  have hRr:=((((hR.out.gr g1).gr g2).drew.gr g3).gr g4).grx hg (fun hm => by have:=(hin _ hm).1;omega);replace hin:=Lib.hid hin;have y0:=hOr.cell (i:=0) (v:=.slice T.an T.N.length T.cn) rfl;have y1:=hOr.cell (i:=1) (v:=.slice T.ag T.G.length T.cg) rfl;have y2:=hOr.cell (i:=2) (v:=.int .i64 T.last) rfl;have y3:=hOr.cell (i:=3) (v:=.int .i64 T.now) rfl;replace hRr:=Lib.hid hRr;by_cases hlt:i < T.G.length
  ·obtain ⟨x,hx⟩:=get_some T.G i hlt;have hxM:=stay_get (p:=p) (m:=T.now + dd) hx;obtain ⟨gb,hag⟩:∃ gb,T.ag = some ⟨gb,0,none⟩:=by
    rcases h.out.g.2 with ⟨h1,h2⟩ | ⟨gb,cap,cur,h1,_⟩
    ·omega
    ·injection h1 with h1;exact ⟨gb,h1⟩
   obtain ⟨b3,off3,e3,hbl3,-,c0,c1,c2,c3,c4⟩:=gh_get hT.out.at.g hxM;dsimp only at e3;rw [hag] at e3 y1;cases e3
   simp only [Nat.zero_add] at c0 c1 c2 c3 c4;have hgbz:gb < w.heap.size∧B≤gb:=hbl.out gb (by rw [hag];rfl);obtain ⟨hgb1,hgb2⟩:=hgbz;have hgt:gb ≠ w.heap.size:=by omega
   have ff:∀ o,wr.frozen? ⟨gb,o,none⟩ = false:=fun o => owns_free (by have:=hT.out.g;dsimp only at this;rw [hag] at this;exact this) rfl o
   have ti:(i:Int) < T.G.length:=by omega
   have hst:=stay_step (p:=p) (m:=T.now + dd) hx;have hwr:IntKind.i64.wrap (T.now + (dd:Int)) = T.now + dd:=by rw [IntKind.wrap_i64];omega
   replace hOr:=Lib.hid hOr;replace hx:=Lib.hid hx;replace hxM:=Lib.hid hxM;replace hag:=Lib.hid hag;replace hst:=Lib.hid hst;replace hMl:=Lib.hid hMl;replace hbl:=Lib.hid hbl;by_cases hpx:x.par = p
   ·have tp:(x.par == p) = true:=by simpa using hpx
    by_cases htl:x.till < T.now + dd
    ·have ttl:decide (x.till < T.now + dd) = true:=decide_eq_true htl;have hsx:stayG p (T.now + dd) x = ⟨x.par,x.srv,T.now + dd⟩:=by unfold stayG;rw [if_pos hpx,Int.max_eq_right (Int.le_of_lt htl)]
     replace hsx:=Lib.hid hsx;go_wp2_with fail;go_quiet (fail);go_wp2_with fail;go_roundw;case rel => exact ⟨i + 1,by omega,by go_num,Lib.hid (by
      have h1:=hst.out;rw [hsx.out] at h1;rw [← h1];exact (own_till (hT.out.gr ((Gr.refl _).drewN _)) hag.out hxM.out (T.now + dd) rfl).2),(hg.drewN _).trans (by
      rw [hag.out];exact (own_till (hT.out.gr ((Gr.refl _).drewN _)) hag.out hxM.out (T.now + dd) rfl).1)⟩
     case measure => simp [intOf];omega
    ·have ttl:decide (x.till < T.now + dd) = false:=decide_eq_false htl;have hsx:stayG p (T.now + dd) x = x:=by unfold stayG;rw [if_pos hpx,Int.max_eq_left (by omega)]
     replace hsx:=Lib.hid hsx;go_wp2_with fail;go_quiet (fail);go_wp2_with fail;go_roundw;case rel => exact ⟨i + 1,by omega,by go_num,Lib.hid (by
      have h1:=hst.out;rw [hsx.out,set_back hxM.out] at h1;rw [← h1];exact hT.out.gr ((Gr.refl _).drewN _)),hg.drewN _⟩
     case measure => simp [intOf];omega
   ·have tp:(x.par == p) = false:=by simpa using hpx
    have hsx:stayG p (T.now + dd) x = x:=by unfold stayG;rw [if_neg hpx]
    replace hsx:=Lib.hid hsx;go_wp2_with fail;go_quiet (fail);go_wp2_with fail;go_roundw;case rel => exact ⟨i + 1,by omega,by go_num,Lib.hid (by
     have h1:=hst.out;rw [hsx.out,set_back hxM.out] at h1;rw [← h1];exact hT.out.gr ((Gr.refl _).drewN _)),hg.drewN _⟩
    case measure => simp [intOf];omega
  ·have hie:i = T.G.length:=by omega
   have ti:¬ (i:Int) < T.G.length:=by omega
   have tib:decide ((i:Int) < T.G.length) = false:=decide_eq_false ti;have r0:=hRr.out.cell (i:=0) (v:=.slice none 0 0) rfl;have r1:=hRr.out.cell (i:=1) (v:=.slice none 0 0) rfl;have r2:=hRr.out.cell (i:=2) (v:=.int .i64 0) rfl;have r3:=hRr.out.cell (i:=3) (v:=.int .i64 0) rfl;have fr:=fun i => hRr.out.free i
   replace hOr:=Lib.hid hOr;replace hMl:=Lib.hid hMl;replace hie:=Lib.hid hie;go_wp2_with fail;obtain ⟨w9,hw9⟩:∃ w9,w9 = (((wr.setCell ⟨w.heap.size + 1,0,none⟩ (.slice T.an T.N.length T.cn)).setCell ⟨w.heap.size + 1,1,none⟩ (.slice T.ag T.G.length T.cg)).setCell ⟨w.heap.size + 1,2,none⟩ (.int .i64 T.last)).setCell ⟨w.heap.size + 1,3,none⟩ (.int .i64 T.now):=⟨_,rfl⟩
   rw [← hw9];have gxw9:GrX [w.heap.size + 1] wr w9:=by
    rw [hw9];exact (((((GrX.refl _ _).set (.inl (by simp)) _).set (.inl (by simp)) _).set (.inl (by simp)) _).set (.inl (by simp)) _)
   have hR9:Blk w9 (w.heap.size + 1) #[.slice T.an T.N.length T.cn,.slice T.ag T.G.length T.cg,.int .i64 T.last,.int .i64 T.now] 27:=by
    rw [hw9];exact ((((hRr.out.set 0 (.slice T.an T.N.length T.cn)).set 1 (.slice T.ag T.G.length T.cg)).set 2 (.int .i64 T.last)).set 3 (.int .i64 T.now))
   have d0:=hR9.cell (i:=0) (v:=.slice T.an T.N.length T.cn) rfl;have d1:=hR9.cell (i:=1) (v:=.slice T.ag T.G.length T.cg) rfl;have d2:=hR9.cell (i:=2) (v:=.int .i64 T.last) rfl;have d3:=hR9.cell (i:=3) (v:=.int .i64 T.now) rfl;refine bodyPost_ret (v:=.agg T.row) (by simp [results,Tryz.results56,go_sem,d0,d1,d2,d3]) rfl ?_;refine ⟨⟨T.N,T.an,T.cn,(T.G.take i).map (stayG p (T.now + dd)) ++ T.G.drop i,T.ag,T.cg,T.last,T.now⟩,by show _ = Ending.returned (.agg #[_,.slice T.ag ((T.G.take i).map (stayG p (T.now + dd)) ++ T.G.drop i).length T.cg,_,_]);rw [hMl.out],by rw [hdr.out,hie.out,List.take_length,List.drop_length,List.append_nil],hT.out.far gxw9 (n0:=w.heap.size) (fun y hy => by simp at hy;omega) (fun k hk => (owns_lt h.out.n k hk).1) (fun k hk => (hbl.out k (by rw [← hk];exact (ownB_len _ _ _ _).symm)).1) (fun x hx ad ha ht => (h.out.k x hx).1.1.lt ha ht),(((gw4.x _).trans hg).new gxw9 (fun y hy => by simp at hy;omega))⟩
end Go.Proofs.YtdfelohjdkcpkaaGreatDoor
namespace Go.Proofs.YtdfelohjdkcpkaaGreatDoor
open Go.RowKit
set_option maxRecDepth 100000 in
set_option maxHeartbeats 6400000 in
theorem rresp12_any (s:Srv) (a:Option Addr) (l:List Tsk) (c i:Nat) (t:Tsk) (w:World) (h:parOk s = true) (hl:TsksAt w a l) (hok:tasksOk l = true) (ht:l[i]? = some t) :
 Calls Tryz.prog 104 #[.agg #[.int .i64 s.k,.int .i64 s.q,.int .i64 s.t],.slice a l.length c,.int .i64 i] w fun e w' => e = .returned (.int .i64 (respI s l i t.d.toNat))∧Gr w w':=by
 have hlt:=legT_mem hok ht;have hil:=get_lt ht;have h8:=(tasksOk_parts hok).2;obtain ⟨t1,t2,t3,t4,t5,t6⟩:=hlt;obtain ⟨W,hW⟩:∃ W,W = w.alloc (.cells #[.int .i64 s.k,.int .i64 s.q,.int .i64 s.t] 29):=⟨_,rfl⟩
 have gW:Gr w W:=by rw [hW];exact (Gr.refl w).alloc _
 have hB:Blk W (w.heap.size) #[.int .i64 s.k,.int .i64 s.q,.int .i64 s.t] 29:=by
  rw [hW];have:=Blk.new (w) #[.int .i64 s.k,.int .i64 s.q,.int .i64 s.t] 29;exact this
 have hWz:W.heap.size = w.heap.size + 1:=by rw [hW];simp
 have hbo:=fun (x:Int) (w':World) (hx:LenOk x) => rbound10_any s x w' h hx
 have hun:∀ (x:Int) (w':World),Gr w w'→LenOk x→Calls Tryz.prog 175 #[.slice a l.length c,.int .i64 i,.int .i64 x] w' fun e w'' => e = .returned (.int .i64 (untI l i x))∧Gr w' w'':=fun x w' g hx => runtil11_any a l c i x w' (hl.gr g) hok hx (by omega) (by omega)
 obtain ⟨r,hr⟩:∃ r,r = respI s l i t.d.toNat:=⟨_,rfl⟩
 rw [← hr];replace hr:=Lib.hid hr;replace hbo:=Lib.hid hbo;replace hun:=Lib.hid hun;replace h:=Lib.hid h;replace hok:=Lib.hid hok;replace hl:=Lib.hid hl;replace hW:=Lib.hid hW;replace hB:=Lib.hid hB;replace ht:=Lib.hid ht;go_enter Tryz.func104,Tryz.ntmps104;go_upto_region 1 with fail
 rw [← hW.out];go_wp2_with fail;go_loopw [7] (fun iv wr => ∃ n:Nat,1≤n∧(n:Int)≤t.d + 1∧iv = .int .i64 n∧(∀ j:Nat,1≤j→j < n→givI (rowI s) j < untI l i j)∧Gr W wr) (fun iv _ => (t.d + 1).toNat - (intOf iv).toNat);case atStart => exact ⟨1,by omega,by omega,rfl,(fun j h1 h2 => by omega),Gr.refl _⟩
 case round =>
  obtain ⟨n,n1,n2,rfl,hall,hg⟩:=hrel;replace hall:=Lib.hid hall;have gA:=gW.trans hg;obtain ⟨b,off,hab,hb,d0,d1,d2,d3⟩:=(hl.out.gr gA) i t ht.out;subst hab;have ti0:(0:Int)≤(i:Int):=by omega
  have ti1:(i:Int) < l.length:=by omega
  have hBr:=hB.out.gr hg;have b0:=hBr.cell (i:=0) (v:=.int .i64 s.k) rfl;have b1:=hBr.cell (i:=1) (v:=.int .i64 s.q) rfl;have b2:=hBr.cell (i:=2) (v:=.int .i64 s.t) rfl;replace hBr:=Lib.hid hBr;by_cases hn:(n:Int)≤t.d
  ·have hnb:decide ((n:Int)≤t.d) = true:=decide_eq_true hn;have hlen:LenOk (n:Int):=⟨by omega,by omega⟩
   replace hlen:=Lib.hid hlen;go_upto_region 4 with fail
   go_region_held3 (fun w' => w'.cell? ⟨w.heap.size,0,none⟩ = some (.int .i64 s.k)∧w'.cell? ⟨w.heap.size,1,none⟩ = some (.int .i64 s.q)∧w'.cell? ⟨w.heap.size,2,none⟩ = some (.int .i64 s.t)) (simp (maxDischargeDepth:=8) [go_sem, *])
    (first
     | (go_at_call 175;(with_reducible refine (hun.out n _ gA.drew hlen.out).mono ?_);rintro e w3 ⟨rfl,g3⟩;have hB3:=(hBr.out.drew).gr g3;have e0:=hB3.cell (i:=0) (v:=.int .i64 s.k) rfl;have e1:=hB3.cell (i:=1) (v:=.int .i64 s.q) rfl;have e2:=hB3.cell (i:=2) (v:=.int .i64 s.t) rfl;replace hB3:=Lib.hid hB3)
     | (go_at_call 176;(with_reducible refine (hbo.out n w3 hlen.out).mono ?_);rintro e w4 ⟨rfl,g4⟩;have hB4:=hB3.out.gr g4;have f0:=hB4.cell (i:=0) (v:=.int .i64 s.k) rfl;have f1:=hB4.cell (i:=1) (v:=.int .i64 s.q) rfl;have f2:=hB4.cell (i:=2) (v:=.int .i64 s.t) rfl;replace hB4:=Lib.hid hB4)
     | fail)
   clear b0 b1 b2 e0 e1 e2 f0 f1 f2;have g5:Gr wr w4:=((Gr.refl wr).drew.trans g3).trans g4;by_cases hle:untI l i n≤givI (rowI s) n
   ·have hleb:decide (untI l i n≤givI (rowI s) n) = true:=decide_eq_true hle;have hrn:r = n:=by
     rw [hr.out];unfold respI;rw [leastI_at (k:=n - 1) (by omega) (by rw [show ((n - 1:Nat):Int) + 1 = n by omega];exact hleb) (fun j hj => by
      rw [decide_eq_false];have:=hall.out (j + 1) (by omega) (by omega);rw [show ((j + 1:Nat):Int) = (j:Int) + 1 by omega] at this;omega)]
     omega
    replace hrn:=Lib.hid hrn;go_wp2_with fail;go_ret;exact ⟨by rw [hrn.out];rfl,gA.trans g5⟩
   ·have hleb:decide (untI l i n≤givI (rowI s) n) = false:=decide_eq_false hle;have hall2:∀ j:Nat,1≤j→j < n + 1→givI (rowI s) j < untI l i j:=fun j j1 j2 => by
     by_cases hj:j < n
     ·exact hall.out j j1 hj
     ·obtain rfl:j = n:=by omega
      omega
    replace hall2:=Lib.hid hall2;have hw1:IntKind.i64.wrap ((n:Int) + 1) = (n:Int) + 1:=by rw [IntKind.wrap_i64] <;> omega
    go_wp2_with fail;go_roundw;case rel => exact ⟨n + 1,by omega,by omega,by go_num,hall2.out,hg.trans g5⟩
    case measure => simp [intOf];omega
  ·have hnb:decide ((n:Int)≤t.d) = false:=decide_eq_false hn;have hrn:r = 0:=by
    rw [hr.out];unfold respI;exact leastI_none (fun j hj => by
     rw [decide_eq_false];have:=hall.out (j + 1) (by omega) (by omega);rw [show ((j + 1:Nat):Int) = (j:Int) + 1 by omega] at this;omega)
   replace hrn:=Lib.hid hrn;go_wp2_with fail;go_ret;exact ⟨by rw [hrn.out];rfl,gA⟩
theorem guestErr_run {s:Srv} {l:List Tsk} (hp:parOk s = true) (hg:guestOk 1 l = true) (hok:tasksOk l = true):guestErr s 1 l = none ↔ (lineB s (shareT l) (sumC l + maxS l) = true∧∀ n:Nat,1≤n→n≤4096→tasksI l n≤givI (rowI s) n):=by
 unfold guestErr;rw [if_neg (by rw [hp];decide),if_neg (by rw [hg];decide),if_neg (by decide)];constructor
 ·intro h;split at h
  ·cases h
  ·rename_i h1;split at h
   ·cases h
   ·rename_i h2;refine ⟨by simpa using h1,fun n _ hn => tasks_near hp hok (fun x x1 x2 hx => ?_) n hn⟩;have h3:=fitsD_iff.1 (by simpa using h2) x.toNat (by omega);rw [show ((x.toNat:Nat):Int) = x by omega] at h3;exact h3 hx
 ·rintro ⟨h1,h2⟩;rw [if_neg (by rw [h1];decide),if_neg];rw [Bool.not_eq_false,fitsD_iff];intro n hn hd;exact h2 n (by have:=dead_pos hok hd;omega) hn
theorem fitsO_no {s:Srv} {l:List Tsk} {i:Nat} {t:Tsk} (ht:l[i]? = some t) (h:respI s l i t.d.toNat = 0):fitsO s l = false:=by
 rw [← Bool.not_eq_true];intro hf;unfold fitsO at hf;rw [List.all_eq_true] at hf;have:=hf i (List.mem_range.2 (get_lt ht));rw [respAt_eq ht] at this;simp [h] at this
theorem fitsO_yes {s:Srv} {l:List Tsk} (h:∀ (i:Nat) (t:Tsk),l[i]? = some t→respI s l i t.d.toNat ≠ 0):fitsO s l = true:=by
 unfold fitsO;rw [List.all_eq_true];intro i hi;obtain ⟨t,ht⟩:=get_some l i (List.mem_range.1 hi);rw [respAt_eq ht];exact decide_eq_true (h i t ht)
set_option maxRecDepth 100000 in
set_option maxHeartbeats 1600000 in
theorem rguest12_par (s:Srv) (p:Int) (a:Option Addr) (l:List Tsk) (c:Nat) (w:World) (hp:parOk s = false) :
 Calls Tryz.prog 59 #[.agg #[.int .i64 s.k,.int .i64 s.q,.int .i64 s.t],.int .i64 p,.slice a l.length c] w fun e w' => e = .returned (.int .i64 10)∧Gr w w':=by
 obtain ⟨W,hW⟩:∃ W,W = w.alloc (.cells #[.int .i64 s.k,.int .i64 s.q,.int .i64 s.t] 29):=⟨_,rfl⟩
 have gW:Gr w W:=by rw [hW];exact (Gr.refl w).alloc _
 have hB:Blk W (w.heap.size) #[.int .i64 s.k,.int .i64 s.q,.int .i64 s.t] 29:=by
  rw [hW];have:=Blk.new (w) #[.int .i64 s.k,.int .i64 s.q,.int .i64 s.t] 29;exact this
 have hWz:W.heap.size = w.heap.size + 1:=by rw [hW];simp
 have b0:=hB.cell (i:=0) (v:=.int .i64 s.k) rfl;have b1:=hB.cell (i:=1) (v:=.int .i64 s.q) rfl;have b2:=hB.cell (i:=2) (v:=.int .i64 s.t) rfl;have hlg:=fun w' => rlegal10_any s w'
 rw [hp] at hlg;replace hW:=Lib.hid hW;replace hB:=Lib.hid hB;replace hlg:=Lib.hid hlg;replace hp:=Lib.hid hp;go_enter Tryz.func59,Tryz.ntmps59;go_upto_region 1 with fail
 rw [← hW.out];go_wp2_with fail;refine (hlg.out W).mono ?_;rintro e w1 ⟨rfl,g1⟩;clear b0 b1 b2;have gA1:=gW.trans g1;go_wp2_with fail;go_ret;exact ⟨rfl,gA1⟩
set_option maxRecDepth 100000 in
set_option maxHeartbeats 1600000 in
theorem rguest12_bad (s:Srv) (p:Int) (a:Option Addr) (l:List Tsk) (c:Nat) (w:World) (hp:parOk s = true) (hl:TsksAt w a l) (hm:l.length≤maxLen) (hg:guestOk p l = false) :
 Calls Tryz.prog 59 #[.agg #[.int .i64 s.k,.int .i64 s.q,.int .i64 s.t],.int .i64 p,.slice a l.length c] w fun e w' => e = .returned (.int .i64 11)∧Gr w w':=by
 obtain ⟨W,hW⟩:∃ W,W = w.alloc (.cells #[.int .i64 s.k,.int .i64 s.q,.int .i64 s.t] 29):=⟨_,rfl⟩
 have gW:Gr w W:=by rw [hW];exact (Gr.refl w).alloc _
 have hB:Blk W (w.heap.size) #[.int .i64 s.k,.int .i64 s.q,.int .i64 s.t] 29:=by
  rw [hW];have:=Blk.new (w) #[.int .i64 s.k,.int .i64 s.q,.int .i64 s.t] 29;exact this
 have hWz:W.heap.size = w.heap.size + 1:=by rw [hW];simp
 have b0:=hB.cell (i:=0) (v:=.int .i64 s.k) rfl;have b1:=hB.cell (i:=1) (v:=.int .i64 s.q) rfl;have b2:=hB.cell (i:=2) (v:=.int .i64 s.t) rfl;have hlg:=fun w' => rlegal10_any s w'
 rw [hp] at hlg;have hgl:=fun w' (g:Gr w w') => rlegalGuest_any p a l c w' (hl.gr g) hm
 rw [hg] at hgl;replace hW:=Lib.hid hW;replace hB:=Lib.hid hB;replace hlg:=Lib.hid hlg;replace hp:=Lib.hid hp;replace hgl:=Lib.hid hgl;replace hg:=Lib.hid hg;replace hl:=Lib.hid hl;go_enter Tryz.func59,Tryz.ntmps59;go_upto_region 1 with fail
 rw [← hW.out];go_wp2_with fail;refine (hlg.out W).mono ?_;rintro e w1 ⟨rfl,g1⟩;clear b0 b1 b2;have gA1:=gW.trans g1;go_wp2_with fail;refine (hgl.out w1 gA1).mono ?_;rintro e w2 ⟨rfl,g2⟩;have gA2:=gA1.trans g2;go_wp2_with fail;go_ret;exact ⟨rfl,gA2⟩
set_option maxRecDepth 100000 in
set_option maxHeartbeats 6400000 in
theorem rguest12_order (s:Srv) (a:Option Addr) (l:List Tsk) (c:Nat) (w:World) (hp:parOk s = true) (hl:TsksAt w a l) (hm:l.length≤maxLen) (hg:guestOk 2 l = true) :
 Calls Tryz.prog 59 #[.agg #[.int .i64 s.k,.int .i64 s.q,.int .i64 s.t],.int .i64 2,.slice a l.length c] w (RkP (guestErr s 2 l) w):=by
 obtain ⟨-,-,hok⟩:=(guestOk_iff 2 l).1 hg;have h8:=(tasksOk_parts hok).2;have hge:guestErr s 2 l = none ↔ fitsO s l = true:=by
  unfold guestErr;rw [if_neg (by rw [hp];decide),if_neg (by rw [hg];decide),if_pos rfl];cases fitsO s l <;> simp
 obtain ⟨K,hK⟩:∃ K,K = guestErr s 2 l:=⟨_,rfl⟩
 rw [← hK] at hge ⊢;obtain ⟨W,hW⟩:∃ W,W = w.alloc (.cells #[.int .i64 s.k,.int .i64 s.q,.int .i64 s.t] 29):=⟨_,rfl⟩
 have gW:Gr w W:=by rw [hW];exact (Gr.refl w).alloc _
 have hB:Blk W (w.heap.size) #[.int .i64 s.k,.int .i64 s.q,.int .i64 s.t] 29:=by
  rw [hW];have:=Blk.new (w) #[.int .i64 s.k,.int .i64 s.q,.int .i64 s.t] 29;exact this
 have hWz:W.heap.size = w.heap.size + 1:=by rw [hW];simp
 have b0:=hB.cell (i:=0) (v:=.int .i64 s.k) rfl;have b1:=hB.cell (i:=1) (v:=.int .i64 s.q) rfl;have b2:=hB.cell (i:=2) (v:=.int .i64 s.t) rfl;have hlg:=fun w' => rlegal10_any s w'
 rw [hp] at hlg;have hgl:=fun w' (g:Gr w w') => rlegalGuest_any 2 a l c w' (hl.gr g) hm
 rw [hg] at hgl;have hrs:=fun (i:Nat) (t:Tsk) (w':World) (g:Gr w w') (ht:l[i]? = some t) => rresp12_any s a l c i t w' hp (hl.gr g) hok ht
 replace hW:=Lib.hid hW;replace hB:=Lib.hid hB;replace hlg:=Lib.hid hlg;replace hp:=Lib.hid hp;replace hgl:=Lib.hid hgl;replace hg:=Lib.hid hg;replace hl:=Lib.hid hl;replace hge:=Lib.hid hge;replace hK:=Lib.hid hK;replace hok:=Lib.hid hok;replace hrs:=Lib.hid hrs;go_enter Tryz.func59,Tryz.ntmps59;go_upto_region 1 with fail
 rw [← hW.out];go_wp2_with fail;refine (hlg.out W).mono ?_;rintro e w1 ⟨rfl,g1⟩;clear b0 b1 b2;have gA1:=gW.trans g1;go_wp2_with fail;refine (hgl.out w1 gA1).mono ?_;rintro e w2 ⟨rfl,g2⟩;have gA2:=gA1.trans g2;go_wp2_with fail;go_loopw [27] (fun iv wr => ∃ k:Nat,k≤l.length∧iv = .int .i64 k∧(∀ (i:Nat) (t:Tsk),i < k→l[i]? = some t→respI s l i t.d.toNat ≠ 0)∧Gr w2 wr) (fun iv _ => l.length - (intOf iv).toNat);case atStart => exact ⟨0,Nat.zero_le _,rfl,(fun i t h => by omega),Gr.refl _⟩
 case round =>
  obtain ⟨k,hk,rfl,hall,hgr⟩:=hrel;replace hall:=Lib.hid hall;have gA:=gA2.trans hgr;by_cases hlt:k < l.length
  ·obtain ⟨t,ht⟩:=get_some l k hlt;have tk:(k:Int) < l.length:=by omega
   have hBr:=((hB.out.gr g1).gr g2).gr hgr;have b0:=hBr.cell (i:=0) (v:=.int .i64 s.k) rfl;have b1:=hBr.cell (i:=1) (v:=.int .i64 s.q) rfl;have b2:=hBr.cell (i:=2) (v:=.int .i64 s.t) rfl;have hc:=hrs.out k t wr gA ht;have hww:IntKind.i64.wrap ((k:Int) + 1) = (k:Int) + 1:=by rw [IntKind.wrap_i64] <;> omega
   replace hBr:=Lib.hid hBr;replace hc:=Lib.hid hc;replace ht:=Lib.hid ht;by_cases h0:respI s l k t.d.toNat = 0
   ·have h0b:(respI s l k t.d.toNat == 0) = true:=by simpa using h0
    replace h0:=Lib.hid h0;go_wp2_with fail;refine hc.out.mono ?_;rintro e w3 ⟨rfl,g3⟩;go_wp2_with fail;go_ret;exact ⟨12,rfl,⟨fun h => (by cases h),fun h => by have:=hge.out.1 h;rw [fitsO_no ht.out h0.out] at this;cases this⟩,gA.trans g3⟩
   ·have h0b:(respI s l k t.d.toNat == 0) = false:=by simpa using h0
    have hall2:∀ (i:Nat) (u:Tsk),i < k + 1→l[i]? = some u→respI s l i u.d.toNat ≠ 0:=fun i u hi hu => by
     by_cases hik:i < k
     ·exact hall.out i u hik hu
     ·obtain rfl:i = k:=by omega
      rw [ht.out] at hu;rw [← Option.some.inj hu];exact h0
    replace h0:=Lib.hid h0;replace hall2:=Lib.hid hall2;go_wp2_with fail;refine hc.out.mono ?_;rintro e w3 ⟨rfl,g3⟩;go_wp2_with fail;go_roundw;case rel => exact ⟨k + 1,by omega,by go_num,hall2.out,hgr.trans g3⟩
    case measure => simp [intOf];omega
  ·have tk:¬ (k:Int) < l.length:=by omega
   have tkb:decide ((k:Int) < l.length) = false:=decide_eq_false tk;have hfo:fitsO s l = true:=fitsO_yes (fun i t hi => hall.out i t (by have:=get_lt hi;omega) hi);replace hfo:=Lib.hid hfo;go_wp2_with fail;go_ret;exact ⟨0,rfl,⟨fun _ => hge.out.2 hfo.out,fun _ => rfl⟩,gA⟩
set_option maxRecDepth 100000 in
set_option maxHeartbeats 6400000 in
theorem rguest12_dead (s:Srv) (a:Option Addr) (l:List Tsk) (c:Nat) (w:World) (hp:parOk s = true) (hl:TsksAt w a l) (hm:l.length≤maxLen) (hg:guestOk 1 l = true) :
 Calls Tryz.prog 59 #[.agg #[.int .i64 s.k,.int .i64 s.q,.int .i64 s.t],.int .i64 1,.slice a l.length c] w (RkP (guestErr s 1 l) w):=by
 obtain ⟨-,-,hok⟩:=(guestOk_iff 1 l).1 hg;have h8:=(tasksOk_parts hok).2;have hrun:=guestErr_run hp hg hok;obtain ⟨K,hK⟩:∃ K,K = guestErr s 1 l:=⟨_,rfl⟩
 rw [← hK] at hrun ⊢;have hrow:=rowI_ok hp;have hg0:givI (rowI s) 0 = 0:=by
  have h1:=giv_nonneg hrow 0;have h2:=giv_le hrow (l:=0) (Int.le_refl _);omega
 replace hg0:=Lib.hid hg0;have hsh:=shr_shareT hok;have hqb:=sumC_bd hok;have hmb:=maxS_bd hok;have hts:tskErr l = none:=by unfold tskErr;rw [if_neg (by rw [hok];decide)]
 have htk:∀ w',Gr w w'→Calls Tryz.prog 105 #[.slice a l.length c] w' fun e w'' => e = .returned (.tuple #[partV (shareT l),.int .i64 0])∧Gr w' w'':=fun w' g => by
  have:=ref_tasks a l c w' (hl.gr g) hm;rw [hts] at this;exact this
 obtain ⟨W,hW⟩:∃ W,W = w.alloc (.cells #[.int .i64 s.k,.int .i64 s.q,.int .i64 s.t] 29):=⟨_,rfl⟩
 have gW:Gr w W:=by rw [hW];exact (Gr.refl w).alloc _
 have hB:Blk W (w.heap.size) #[.int .i64 s.k,.int .i64 s.q,.int .i64 s.t] 29:=by
  rw [hW];have:=Blk.new (w) #[.int .i64 s.k,.int .i64 s.q,.int .i64 s.t] 29;exact this
 have hWz:W.heap.size = w.heap.size + 1:=by rw [hW];simp
 have b0:=hB.cell (i:=0) (v:=.int .i64 s.k) rfl;have b1:=hB.cell (i:=1) (v:=.int .i64 s.q) rfl;have b2:=hB.cell (i:=2) (v:=.int .i64 s.t) rfl;have hlg:=fun w' => rlegal10_any s w'
 rw [hp] at hlg;have hgl:=fun w' (g:Gr w w') => rlegalGuest_any 1 a l c w' (hl.gr g) hm
 rw [hg] at hgl;replace hW:=Lib.hid hW;replace hB:=Lib.hid hB;replace hlg:=Lib.hid hlg;replace hp:=Lib.hid hp;replace hgl:=Lib.hid hgl;replace hg:=Lib.hid hg;replace hl:=Lib.hid hl;replace hrun:=Lib.hid hrun;replace hK:=Lib.hid hK;replace hok:=Lib.hid hok;replace hrow:=Lib.hid hrow;replace hsh:=Lib.hid hsh;replace hqb:=Lib.hid hqb;replace hmb:=Lib.hid hmb;replace hts:=Lib.hid hts;replace htk:=Lib.hid htk;go_enter Tryz.func59,Tryz.ntmps59;go_upto_region 1 with fail
 rw [← hW.out];go_wp2_with fail;refine (hlg.out W).mono ?_;rintro e w1 ⟨rfl,g1⟩;clear b0 b1 b2;have gA1:=gW.trans g1;go_wp2_with fail;refine (hgl.out w1 gA1).mono ?_;rintro e w2 ⟨rfl,g2⟩;have gA2:=gA1.trans g2;go_wp2_with fail;refine (htk.out w2 gA2).mono ?_;rintro e w3 ⟨rfl,g3⟩;obtain ⟨pb,hpb⟩:∃ pb,pb = w3.heap.size:=⟨_,rfl⟩
 obtain ⟨w4,hw4⟩:∃ w4,w4 = w3.alloc (.cells #[.int .u64 (hiW (shareT l).1),.int .u64 (loW (shareT l).1),.int .u64 (hiW (shareT l).2),.int .u64 (loW (shareT l).2)] 195):=⟨_,rfl⟩
 have g4:Gr w3 w4:=by rw [hw4];exact (Gr.refl _).alloc _
 have hP4:Blk w4 pb #[.int .u64 (hiW (shareT l).1),.int .u64 (loW (shareT l).1),.int .u64 (hiW (shareT l).2),.int .u64 (loW (shareT l).2)] 195:=by rw [hw4,hpb];exact Blk.new _ _ _
 have gA4:=(gA2.trans g3).trans g4;have hB4:=(((hB.out.gr g1).gr g2).gr g3).gr g4;replace hpb:=Lib.hid hpb;replace hw4:=Lib.hid hw4;replace hP4:=Lib.hid hP4;replace hB4:=Lib.hid hB4;go_upto_region 14 with fail
 rw [← hpb.out,← hw4.out];go_wp2_with fail;go_loopw [10,11,43] (fun sv mv iv wr => ∃ k:Nat,k≤l.length∧sv = .int .i64 (sumC (l.take k))∧mv = .int .i64 (maxS (l.take k))∧iv = .int .i64 k∧Gr w4 wr) (fun _ _ iv _ => l.length - (intOf iv).toNat);case atStart => exact ⟨0,Nat.zero_le _,rfl,rfl,rfl,Gr.refl _⟩
 case round =>
  obtain ⟨k,hk,rfl,rfl,rfl,hgr⟩:=hrel;by_cases hlt:k < l.length
  ·obtain ⟨x,hx⟩:=get_some l k hlt;have hxl:=legT_mem hok.out hx;obtain ⟨ba,off,hag,hba2,d0,d1,d2,d3⟩:=(hl.out.gr (gA4.trans hgr)) k x hx;subst hag;have tk:(k:Int) < l.length:=by omega
   have hs1:sumC (l.take (k + 1)) = sumC (l.take k) + x.c:=by unfold sumC;rw [take_snoc hx,sumI_snoc]
   have hm1:maxS (l.take (k + 1)) = max (maxS (l.take k)) x.s:=by rw [take_snoc hx,maxS_snoc]
   have hq1:=hqb.out k;have hq2:=hqb.out (k + 1);have hx1:=hmb.out k;obtain ⟨x1,x2,x3,x4,x5,x6⟩:=hxl;have hww:IntKind.i64.wrap (sumC (l.take k) + x.c) = sumC (l.take k) + x.c:=by rw [IntKind.wrap_i64] <;> omega
   have hwk:IntKind.i64.wrap ((k:Int) + 1) = (k:Int) + 1:=by rw [IntKind.wrap_i64] <;> omega
   obtain ⟨q1,q2⟩:=hq1;obtain ⟨q3,q4⟩:=hq2;obtain ⟨m1,m2⟩:=hx1;replace hx:=Lib.hid hx;replace hs1:=Lib.hid hs1;by_cases hmx:maxS (l.take k) < x.s
   ·have hmb2:decide (maxS (l.take k) < x.s) = true:=decide_eq_true hmx;have hm3:maxS (l.take (k + 1)) = x.s:=by omega
    clear hm1;replace hm3:=Lib.hid hm3;go_wp2_with fail;go_roundw;case rel => exact ⟨k + 1,by omega,by rw [hs1.out],by rw [hm3.out],by go_num,hgr.alloc _⟩
    case measure => simp [intOf];omega
   ·have hmb2:decide (maxS (l.take k) < x.s) = false:=decide_eq_false hmx;have hm3:maxS (l.take (k + 1)) = maxS (l.take k):=by omega
    clear hm1;replace hm3:=Lib.hid hm3;go_wp2_with fail;go_roundw;case rel => exact ⟨k + 1,by omega,by rw [hs1.out],by rw [hm3.out],by go_num,hgr.alloc _⟩
    case measure => simp [intOf];omega
  ·have hkl:k = l.length:=by omega
   have ti:¬ (k:Int) < l.length:=by omega
   have tib:decide ((k:Int) < l.length) = false:=decide_eq_false ti;have hsq:sumC (l.take k) = sumC l:=by rw [hkl,List.take_length]
   have hsm:maxS (l.take k) = maxS l:=by rw [hkl,List.take_length]
   have hq1:=hqb.out l.length;have hq2:=hmb.out l.length;rw [List.take_length] at hq1 hq2;have hww:IntKind.i64.wrap (sumC (l.take k) + maxS (l.take k)) = sumC (l.take k) + maxS (l.take k):=by rw [IntKind.wrap_i64,hsq,hsm] <;> omega
   have hlc:=fun w' => line12_any s (shareT l) (sumC (l.take k) + maxS (l.take k)) w' hp.out hsh.out (by rw [hsq,hsm];omega) (by rw [hsq,hsm];omega)
   have hlq:lineB s (shareT l) (sumC (l.take k) + maxS (l.take k)) = lineB s (shareT l) (sumC l + maxS l):=by rw [hsq,hsm]
   rw [hlq] at hlc;have hBx:=hB4.out.gr hgr;have hPx:=hP4.out.gr hgr;have gAx:=gA4.trans hgr;have b0:=hBx.cell (i:=0) (v:=.int .i64 s.k) rfl;have b1:=hBx.cell (i:=1) (v:=.int .i64 s.q) rfl;have b2:=hBx.cell (i:=2) (v:=.int .i64 s.t) rfl;have p0:=hPx.cell (i:=0) (v:=.int .u64 (hiW (shareT l).1)) rfl;have p1:=hPx.cell (i:=1) (v:=.int .u64 (loW (shareT l).1)) rfl;have p2:=hPx.cell (i:=2) (v:=.int .u64 (hiW (shareT l).2)) rfl;have p3:=hPx.cell (i:=3) (v:=.int .u64 (loW (shareT l).2)) rfl;cases hlb:lineB s (shareT l) (sumC l + maxS l) with
   | false =>
    rw [hlb] at hlc;replace hlc:=Lib.hid hlc;replace hBx:=Lib.hid hBx;replace hPx:=Lib.hid hPx;replace hkl:=Lib.hid hkl;replace hsq:=Lib.hid hsq;replace hsm:=Lib.hid hsm;replace hlb:=Lib.hid hlb;replace hlq:=Lib.hid hlq;go_wp2_with fail;refine (hlc.out wr).mono ?_;rintro e w5 ⟨rfl,g5⟩;clear b0 b1 b2 p0 p1 p2 p3;have gA5:=gAx.trans g5;go_wp2_with fail;go_ret;exact ⟨12,rfl,⟨fun h => (by cases h),fun h => by have:=(hrun.out.1 h).1;rw [hlb.out] at this;cases this⟩,gA5⟩
   | true =>
    rw [hlb] at hlc;replace hlc:=Lib.hid hlc;replace hBx:=Lib.hid hBx;replace hPx:=Lib.hid hPx;replace hkl:=Lib.hid hkl;replace hsq:=Lib.hid hsq;replace hsm:=Lib.hid hsm;replace hlb:=Lib.hid hlb;replace hlq:=Lib.hid hlq;go_wp2_with fail;refine (hlc.out wr).mono ?_;rintro e w5 ⟨rfl,g5⟩;clear b0 b1 b2 p0 p1 p2 p3;have gA5:=gAx.trans g5;have hB5:=hBx.out.gr g5;replace hB5:=Lib.hid hB5;go_wp2_with fail;go_loopw [14,15] (fun sv iv wr => ∃ n:Nat,1≤n∧n≤4097∧sv = .int .i64 (givI (rowI s) ((n:Int) - 1))∧iv = .int .i64 n∧(∀ j:Nat,1≤j→j < n→tasksI l j≤givI (rowI s) j)∧Gr w5 wr) (fun _ iv _ => 4097 - (intOf iv).toNat);case atStart => exact ⟨1,by omega,by omega,by rw [show ((1:Nat):Int) - 1 = 0 by omega,hg0.out],rfl,(fun j h1 h2 => by omega),Gr.refl _⟩
    case round =>
     obtain ⟨n,n1,n2,rfl,rfl,hall,hg5⟩:=hrel;replace hall:=Lib.hid hall;obtain ⟨wo,rfl⟩:∃ wo:World,wo = wr:=⟨wr,rfl⟩
     by_cases hn:n≤4096
     ·have tn:(n:Int)≤4096:=by omega
      have tnb:decide ((n:Int)≤4096) = true:=decide_eq_true tn;have hwn:IntKind.i64.wrap ((n:Int) - 1) = (n:Int) - 1:=by rw [IntKind.wrap_i64] <;> omega
      have hst:=giv_step hrow.out (i:=(n:Int) - 1);rw [show (n:Int) - 1 + 1 = n by omega] at hst;have hgb:=giv_nonneg hrow.out ((n:Int) - 1);have hgu:=giv_le hrow.out (l:=(n:Int) - 1) (by omega);have hat:=at10_all s ((n:Int) - 1) wo hp.out (by omega) (by omega);have hB6:=hB5.out.gr hg5;have b0:=hB6.cell (i:=0) (v:=.int .i64 s.k) rfl;have b1:=hB6.cell (i:=1) (v:=.int .i64 s.q) rfl;have b2:=hB6.cell (i:=2) (v:=.int .i64 s.t) rfl;have gA6:=gA5.trans hg5;replace hB6:=Lib.hid hB6;cases ha:atI (rowI s) ((n:Int) - 1) with
      | true =>
       rw [ha] at hat hst;replace ha:=Lib.hid ha;replace hat:=Lib.hid hat;rw [if_pos rfl] at hst;have hw1:IntKind.i64.wrap (givI (rowI s) ((n:Int) - 1) + 1) = givI (rowI s) n:=by rw [hst,IntKind.wrap_i64] <;> omega
       replace hst:=Lib.hid hst;go_wp2_with fail;refine hat.out.mono ?_;rintro e w6 ⟨rfl,g6⟩;have hsv:=rtasks11_any a l c n w6 (hl.out.gr (gA6.trans g6)) hok.out ⟨by omega,by omega⟩;clear b0 b1 b2;by_cases tg:givI (rowI s) n < tasksI l n
       ·have tgb:decide (givI (rowI s) n < tasksI l n) = true:=decide_eq_true tg;replace hsv:=Lib.hid hsv;go_wp2_with fail;refine hsv.out.mono ?_;rintro e w7 ⟨rfl,g7⟩;go_wp2_with fail;go_ret;exact ⟨12,rfl,⟨fun h => (by cases h),fun h => by have h1:=(hrun.out.1 h).2 n n1 hn;omega⟩,(gA6.trans g6).trans g7⟩
       ·have tgb:decide (givI (rowI s) n < tasksI l n) = false:=decide_eq_false tg;have hall2:∀ j:Nat,1≤j→j < n + 1→tasksI l j≤givI (rowI s) j:=fun j j1 j2 => by
         by_cases hj:j < n
         ·exact hall.out j j1 hj
         ·obtain rfl:j = n:=by omega
          omega
        replace hall2:=Lib.hid hall2;replace hsv:=Lib.hid hsv;go_wp2_with fail;refine hsv.out.mono ?_;rintro e w7 ⟨rfl,g7⟩;go_wp2_with fail;go_roundw;case rel => exact ⟨n + 1,by omega,by omega,by rw [show ((n + 1:Nat):Int) - 1 = n by omega],by go_num,hall2.out,(hg5.trans g6).trans g7⟩
        case measure => simp [intOf];omega
      | false =>
       rw [ha] at hat hst;replace ha:=Lib.hid ha;replace hat:=Lib.hid hat;rw [if_neg (by decide),Int.add_zero] at hst;replace hst:=Lib.hid hst;go_wp2_with fail;refine hat.out.mono ?_;rintro e w6 ⟨rfl,g6⟩;have hsv:=rtasks11_any a l c n w6 (hl.out.gr (gA6.trans g6)) hok.out ⟨by omega,by omega⟩;clear b0 b1 b2;by_cases tg:givI (rowI s) ((n:Int) - 1) < tasksI l n
       ·have tgb:decide (givI (rowI s) ((n:Int) - 1) < tasksI l n) = true:=decide_eq_true tg;replace hsv:=Lib.hid hsv;go_wp2_with fail;refine hsv.out.mono ?_;rintro e w7 ⟨rfl,g7⟩;go_wp2_with fail;go_ret;exact ⟨12,rfl,⟨fun h => (by cases h),fun h => by have h1:=(hrun.out.1 h).2 n n1 hn;rw [hst.out] at h1;omega⟩,(gA6.trans g6).trans g7⟩
       ·have tgb:decide (givI (rowI s) ((n:Int) - 1) < tasksI l n) = false:=decide_eq_false tg;have hall2:∀ j:Nat,1≤j→j < n + 1→tasksI l j≤givI (rowI s) j:=fun j j1 j2 => by
         by_cases hj:j < n
         ·exact hall.out j j1 hj
         ·obtain rfl:j = n:=by omega
          rw [hst.out];omega
        replace hall2:=Lib.hid hall2;replace hsv:=Lib.hid hsv;go_wp2_with fail;refine hsv.out.mono ?_;rintro e w7 ⟨rfl,g7⟩;go_wp2_with fail;go_roundw;case rel => exact ⟨n + 1,by omega,by omega,by rw [show ((n + 1:Nat):Int) - 1 = n by omega];rw [hst.out],by go_num,hall2.out,(hg5.trans g6).trans g7⟩
        case measure => simp [intOf];omega
     ·have tn:¬ (n:Int)≤4096:=by omega
      have tnb:decide ((n:Int)≤4096) = false:=decide_eq_false tn;go_wp2_with fail;go_ret;exact ⟨0,rfl,⟨fun _ => hrun.out.2 ⟨hlb.out,fun j j1 j2 => hall.out j j1 (by omega)⟩,fun _ => rfl⟩,gA5.trans hg5⟩
theorem rguest12_any (s:Srv) (p:Int) (a:Option Addr) (l:List Tsk) (c:Nat) (w:World) (hl:TsksAt w a l) (hm:l.length≤maxLen) :
 Calls Tryz.prog 59 #[.agg #[.int .i64 s.k,.int .i64 s.q,.int .i64 s.t],.int .i64 p,.slice a l.length c] w (RkP (guestErr s p l) w):=by
 cases hp:parOk s with
 | false =>
  have hk:guestErr s p l = some 9:=by unfold guestErr;rw [if_pos hp]
  rw [hk];exact (rguest12_par s p a l c w hp).mono fun _ _ ⟨h1,h2⟩ => ⟨10,h1,⟨fun h => (by cases h),fun h => (by cases h)⟩,h2⟩
 | true =>
  cases hg:guestOk p l with
  | false =>
   have hk:guestErr s p l = some 10:=by unfold guestErr;rw [if_neg (by rw [hp];decide),if_pos hg]
   rw [hk];exact (rguest12_bad s p a l c w hp hl hm hg).mono fun _ _ ⟨h1,h2⟩ => ⟨11,h1,⟨fun h => (by cases h),fun h => (by cases h)⟩,h2⟩
  | true =>
   rcases ((guestOk_iff p l).1 hg).1 with rfl | rfl
   ·exact rguest12_dead s a l c w hp hl hm hg
   ·exact rguest12_order s a l c w hp hl hm hg
end Go.Proofs.YtdfelohjdkcpkaaGreatDoor
