/- Voter.Claim where it claims. Printed by gen_o20.py. -/
import Derived.Test.YteigofaccjaobaaGreatDoorKK18
namespace Go.Proofs.YteigofaccjaobaaGreatDoor
open Go.RowKit
theorem nats2 (w:World) (a b:Nat):RecsAt 1 natC (w.alloc (.cells #[.int .i64 a,.int .i64 b] 3)) (some ⟨w.heap.size,0,none⟩) [a,b]:=recs_alloc natC_len w [a,b] _ _ rfl
set_option maxRecDepth 100000 in
set_option maxHeartbeats 12800000 in
theorem claim_go {G:List Nat} {E:Nat→Addr} {W:World} (w:World) (hE:EAt G E W) (i0:4 ∈ G) (i4:0 ∈ G) (i5:1 ∈ G) (i3:5 ∈ G) (i6:2 ∈ G) {db lb vb:Nat} {V:VotM} {M:DskM} {L:LogM} (h:Hold W db lb vb V M L w) (hC:M.m + M.d.C.length≤880000) (h4:4≤M.d.n) (b:Bal) (T:Nat) (hT:topC V.s b = T) (hT2:T < 1099511627776) :
 Calls Tryz.prog 18 #[.pointer (some ⟨vb,0,none⟩),.agg #[.int .i64 b.r,.int .i64 b.n]] w fun e w' => ∃ M' L' V' own,M'.d = wrtD M.d L.v (snapB V.s) (vrB [3,T + 1] none)∧L'.v = aocL M.d L.v (snapB V.s) (vrB [3,T + 1] none)∧Hold W db lb vb V' M' L' w'∧own = M.own db ++ L.own lb∧(∀ b ∈ M'.own db ++ L'.own lb,b ∈ own ∨ w.heap.size≤b)∧M'.m + M'.d.C.length≤M.m + M.d.C.length + 3000∧GrX (vb :: own) w w'∧V'.nu = V.nu ∧
  ((aocE M.d L.v (snapB V.s) (vrB [3,T + 1] none) = 0∧V'.s = {V.s with cl:=T + 1}∧e = .returned (.tuple #[.agg #[.int .i64 ((T + 1:Nat):Int),.int .i64 V.nu],.nilIface]))
   ∨ (∃ g,aocE M.d L.v (snapB V.s) (vrB [3,T + 1] none) ≠ 0∧eV E (aocE M.d L.v (snapB V.s) (vrB [3,T + 1] none)) = errAt E g∧V'.s = V.s∧e = .returned (.tuple #[.agg #[.int .i64 0,.int .i64 0],errAt E g]))):=by
 obtain ⟨T1,hT1⟩:∃ T1,T1 = T + 1:=⟨_,rfl⟩
 rw [← hT1];obtain ⟨B,hB⟩:∃ B,B = vrB [3,T1] none:=⟨_,rfl⟩
 rw [← hB];replace hB:=Lib.hid hB;obtain ⟨bl,hbl⟩:∃ bl,bl = B.length:=⟨_,rfl⟩
 have hT140:T1≤1099511627776:=by omega
 replace hbl:=Lib.hid hbl;obtain ⟨wa,hwa⟩:∃ wa,wa = w.alloc (.cells #[.int .i64 b.r,.int .i64 b.n] 23):=⟨_,rfl⟩
 obtain ⟨w0,hw0⟩:∃ w0,w0 = wa.alloc (.cells #[.int .i64 0,.int .i64 0] 23):=⟨_,rfl⟩
 have ga:Gr w wa:=by rw [hwa];exact (Gr.refl w).alloc _
 have gb:Gr wa w0:=by rw [hw0];exact (Gr.refl wa).alloc _
 have g0:=ga.trans gb;have hsa:wa.heap.size = w.heap.size + 1:=by rw [hwa];simp
 have hp0:Blk w0 w.heap.size #[.int .i64 b.r,.int .i64 b.n] 23:=Blk.gr (by rw [hwa];exact Blk.new _ _ _) gb;have hr0:Blk w0 (w.heap.size + 1) #[.int .i64 0,.int .i64 0] 23:=by rw [hw0,← hsa];exact Blk.new _ _ _
 have h0:=h.gr g0;have d0:=h0.v.b.cell (i:=0) (v:=.int .i64 V.s.pr) rfl;have d1:=h0.v.b.cell (i:=1) (v:=.int .i64 V.s.pn) rfl;have d2:=h0.v.b.cell (i:=2) (v:=.int .i64 V.s.ar) rfl;have d3:=h0.v.b.cell (i:=3) (v:=.int .i64 V.s.an) rfl;have d4:=h0.v.b.cell (i:=4) (v:=.slice V.a V.s.l.length V.c) rfl;have d5:=h0.v.b.cell (i:=5) (v:=.int .i64 V.s.cl) rfl;have d6:=h0.v.b.cell (i:=6) (v:=.int .i64 V.nu) rfl;have d7:=h0.v.b.cell (i:=7) (v:=.pointer (some ⟨lb,0,none⟩)) rfl;have dz:=h0.v.b.lt;have p0:=hp0.cell (i:=0) (v:=.int .i64 b.r) rfl;have pz:=hp0.lt;replace h:=Lib.hid h;replace h0:=Lib.hid h0;replace hE:=Lib.hid hE;by_cases hb:b.r≤1099511627776
 ·have hb2:decide (b.r≤1099511627776) = true:=decide_eq_true hb;go_enter Tryz.func18,Tryz.ntmps18;go_upto_region 1 with fail
  have k0:=GrW.cell d0;have k5:=GrW.cell d5;rw [← hwa,← hw0];refine wp_region_grows (by kernel_rfl) (by kernel_rfl) ?_;repeat (any_goals (first | go_big_quiet_step (first | fail) | quiet_step (first | fail)))
  refine wpQuiet_nil ?_;intro wz hwq;have gz:=GrW.of hwq;clear hwq;obtain ⟨cz,fz,sz⟩:=gz.cells;try simp only [size_drewN] at cz fz sz
  try simp only [World.size_alloc] at cz fz sz
  try simp only [World.size_drew] at cz fz sz
  try simp only [World.size_setCell] at cz fz sz
  obtain ⟨t0,ht0⟩:∃ t0:Int,t0 = (if V.s.pr < V.s.cl then (V.s.cl:Int) else (V.s.pr:Int)):=⟨_,rfl⟩
  rw [← ht0];have pz0:=(hp0.gr gz).cell (i:=0) (v:=.int .i64 b.r) rfl;have pzz:=(hp0.gr gz).lt;have hrz:=hr0.gr gz;have h2:=h0.out.gr gz;clear d0 d1 d2 d3 d4 d5 d6 d7 dz k0 k5;have d0:=h2.v.b.cell (i:=0) (v:=.int .i64 V.s.pr) rfl;have d1:=h2.v.b.cell (i:=1) (v:=.int .i64 V.s.pn) rfl;have d2:=h2.v.b.cell (i:=2) (v:=.int .i64 V.s.ar) rfl;have d3:=h2.v.b.cell (i:=3) (v:=.int .i64 V.s.an) rfl;have d4:=h2.v.b.cell (i:=4) (v:=.slice V.a V.s.l.length V.c) rfl;have d5:=h2.v.b.cell (i:=5) (v:=.int .i64 V.s.cl) rfl;have d6:=h2.v.b.cell (i:=6) (v:=.int .i64 V.nu) rfl;have d7:=h2.v.b.cell (i:=7) (v:=.pointer (some ⟨lb,0,none⟩)) rfl;have dz:=h2.v.b.lt;replace h2:=Lib.hid h2;replace hrz:=Lib.hid hrz;by_cases hlt:t0 < b.r
  ·have hTb:b.r = T:=by
    unfold topC at hT;rw [if_pos hb] at hT;rw [ht0] at hlt;split at hlt <;> omega
   have hn40:¬ (1099511627776:Int)≤b.r:=by omega
   have hw64:IntKind.i64.wrap (b.r + 1) = (T1:Int):=by rw [wraps_i64 _ (by omega) (by omega)];omega
   replace ht0:=Lib.hid ht0;replace hT2:=Lib.hid hT2;replace hT:=Lib.hid hT;replace hT1:=Lib.hid hT1;replace hTb:=Lib.hid hTb;replace hC:=Lib.hid hC;replace h4:=Lib.hid h4;obtain ⟨wn,hwn⟩:∃ wn,wn = wz.alloc (.cells #[.int .i64 3,.int .i64 T1] 3):=⟨_,rfl⟩
   have gn:Gr wz wn:=by rw [hwn];exact (Gr.refl wz).alloc _
   have hrc:=record_no wn (some ⟨wz.heap.size,0,none⟩) 2 [3,T1] (by rw [hwn];exact nats2 wz 3 T1) (by simp;omega) (by simp);have gw2:Gr w wz:=g0.trans gz;rw [← hB.out,← hbl.out] at hrc;replace hrc:Calls Tryz.prog 37 #[.slice (some ⟨wz.heap.size,0,none⟩) 2 2,.slice none 0 0,.bool false] wn fun q w' => ∃ a c,q = .returned (.tuple #[.slice a bl c,.nilIface])∧Own wn w' a c B:=hrc
   replace hrc:=Lib.hid hrc;go_wp2_with fail;rw [← hwn];refine hrc.out.mono ?_;rintro q w3 ⟨a3,c3,rfl,ho3⟩;have h3:=(h2.out.gr gn).gr ho3.2.2.2.2;have hb3:=h2.out.own_byt gn ho3;have gw3:Gr w w3:=(gw2.trans gn).trans ho3.2.2.2.2;have hvok:=h3.v.ok;have hve:=h3.v.e;have hvn:=h3.v.n;have hvc:=h3.v.c;have hwr:=write_any w3 hE.out i0 i4 i5 i3 i6 h3 (by have:=hC.out;omega) h4.out a3 c3 B hb3 {V.s with cl:=T1} ⟨⟨hvok.1.1,hvok.1.2.1,hvok.1.2.2.1,hvok.1.2.2.2.1,hT140⟩,hvok.2⟩ (fun w1 gW1 hS1 hM1 => by
    rw [hB.out] at hS1 ⊢;refine (done_c w1 a3 c3 V.s V.a V.s.l.length V.c T1 hT140 hS1 hb3.n).mono ?_;rintro e w' ⟨rfl,g⟩;exact ⟨V.a,V.c,V.L,rfl,hve,.inr ⟨rfl,rfl⟩,hvn,hvc,g⟩)
   rw [← hbl.out] at hwr;clear d0 d1 d2 d3 d4 d5 d6 d7 dz hvok hve hvn hvc;have d0:=h3.v.b.cell (i:=0) (v:=.int .i64 V.s.pr) rfl;have d1:=h3.v.b.cell (i:=1) (v:=.int .i64 V.s.pn) rfl;have d2:=h3.v.b.cell (i:=2) (v:=.int .i64 V.s.ar) rfl;have d3:=h3.v.b.cell (i:=3) (v:=.int .i64 V.s.an) rfl;have d4:=h3.v.b.cell (i:=4) (v:=.slice V.a V.s.l.length V.c) rfl;have d5:=h3.v.b.cell (i:=5) (v:=.int .i64 V.s.cl) rfl;have d6:=h3.v.b.cell (i:=6) (v:=.int .i64 V.nu) rfl;have d7:=h3.v.b.cell (i:=7) (v:=.pointer (some ⟨lb,0,none⟩)) rfl;have dz:=h3.v.b.lt;replace hwr:=Lib.hid hwr;replace h3:=Lib.hid h3;replace hb3:=Lib.hid hb3;replace ho3:=Lib.hid ho3;go_wp2_with fail;refine hwr.out.mono ?_;rintro q w4 ⟨M4,L4,V4,rfl,hd4,hl4,hs4,hn4,h4',ho4,hm4,hg4⟩;have hown:∀ x ∈ vb :: (M.own db ++ L.own lb),x < w.heap.size:=fun x hx => by
    rcases List.mem_cons.1 hx with rfl | hx
    ·exact h.out.v.b.lt
    ·exact h.out.own_lt x hx
   have gf4:GrX (vb :: (M.own db ++ L.own lb)) w w4:=(gw3.x _).trans hg4;have ho4':∀ x ∈ M4.own db ++ L4.own lb,x ∈ M.own db ++ L.own lb ∨ w.heap.size≤x:=fun x hx => by
    rcases ho4 x hx with h5 | h5
    ·exact .inl h5
    ·have:=gw3.size;right;omega
   have hr3:=(hrz.out.gr gn).gr ho3.out.2.2.2.2;have hr3z:=hr3.lt;have hrR:=hr3.grx hg4 (fun hx => by have:=hown _ hx;omega);have hres:∀ x ∈ M4.own db ++ L4.own lb,x ≠ w.heap.size + 1:=fun x hx e => by
    rcases ho4 x hx with h5 | h5
    ·have:=hown x (List.mem_cons_of_mem _ h5);omega
    ·omega
   have hvz:=hown vb List.mem_cons_self;have hWz:=h.out.g.size;have z34:=hg4.size;clear d0 d1 d2 d3 d4 d5 d6 d7 dz;replace hd4:=Lib.hid hd4;replace hl4:=Lib.hid hl4;replace ho4:=Lib.hid ho4;replace ho4':=Lib.hid ho4';replace hm4:=Lib.hid hm4;replace hg4:=Lib.hid hg4;replace gf4:=Lib.hid gf4;replace hown:=Lib.hid hown;replace hres:=Lib.hid hres;replace hr3:=Lib.hid hr3;rcases aocE_cases E M.d L.v (snapB V.s) B with hz | ⟨g,hz,hg⟩
   ·have hq:eV E (aocE M.d L.v (snapB V.s) B) = .nilIface:=by rw [hz];rfl
    have hs4':V4.s = {V.s with cl:=T1}:=by rw [hs4,if_pos hz]
    rw [hq];have hVR:=h4'.v;have d6:=hVR.b.cell (i:=6) (v:=.int .i64 V4.nu) rfl;rw [hn4] at d6;have dz:=hVR.b.lt;have q0:=hrR.cell (i:=0) (v:=.int .i64 0) rfl;have q1:=hrR.cell (i:=1) (v:=.int .i64 0) rfl;have qf0:=hrR.free 0;have qf1:=hrR.free 1;have qz:=hrR.lt;have gs:GrX [w.heap.size + 1] w4 ((w4.setCell ⟨w.heap.size + 1,0,none⟩ (.int .i64 T1)).setCell ⟨w.heap.size + 1,1,none⟩ (.int .i64 V.nu)):=((GrX.refl [w.heap.size + 1] w4).set (p:=⟨w.heap.size + 1,0,none⟩) (.inl (by simp)) _).set (p:=⟨w.heap.size + 1,1,none⟩) (.inl (by simp)) _;have hrf:=(hrR.set 0 (.int .i64 T1)).set 1 (.int .i64 V.nu);have hHf:=h4'.res hrR gs hres.out (by omega) (by omega);have gXf:=gf4.out.trans2 gs (fun x hx => .inr (by rw [List.mem_singleton.1 hx];omega));replace hVR:=Lib.hid hVR;replace hn4:=Lib.hid hn4;replace h4':=Lib.hid h4';replace hs4:=Lib.hid hs4;replace hs4':=Lib.hid hs4';replace hz:=Lib.hid hz;replace hq:=Lib.hid hq;replace hrf:=Lib.hid hrf;replace hHf:=Lib.hid hHf;replace gXf:=Lib.hid gXf;clear gs;go_wp2_with fail;refine bodyPost_ret (v:=.tuple #[.agg #[.int .i64 T1,.int .i64 V.nu],.nilIface]) ?_ rfl ⟨M4,L4,V4,_,hd4.out,hl4.out,hHf.out,rfl,ho4'.out,hm4.out,gXf.out,hn4.out,.inl ⟨hz.out,hs4'.out,rfl⟩⟩;exact (res_cell (b:=w.heap.size + 1) (t:=23) Tryz.results18 _ _ hrf.out rfl Tryz.underlying23 (by kernel_rfl)).trans rfl
   ·have hs4':V4.s = V.s:=by rw [hs4,if_neg hz]
    rw [hg];have q0:=hrR.cell (i:=0) (v:=.int .i64 0) rfl;have q1:=hrR.cell (i:=1) (v:=.int .i64 0) rfl;have qf0:=hrR.free 0;have qf1:=hrR.free 1;have qz:=hrR.lt;have gs:GrX [w.heap.size + 1] w4 ((w4.setCell ⟨w.heap.size + 1,0,none⟩ (.int .i64 0)).setCell ⟨w.heap.size + 1,1,none⟩ (.int .i64 0)):=((GrX.refl [w.heap.size + 1] w4).set (p:=⟨w.heap.size + 1,0,none⟩) (.inl (by simp)) _).set (p:=⟨w.heap.size + 1,1,none⟩) (.inl (by simp)) _;have hrf:=(hrR.set 0 (.int .i64 0)).set 1 (.int .i64 0);have hHf:=h4'.res hrR gs hres.out (by omega) (by omega);have gXf:=gf4.out.trans2 gs (fun x hx => .inr (by rw [List.mem_singleton.1 hx];omega));replace hn4:=Lib.hid hn4;replace h4':=Lib.hid h4';replace hs4:=Lib.hid hs4;replace hs4':=Lib.hid hs4';replace hz:=Lib.hid hz;replace hg:=Lib.hid hg;replace hrf:=Lib.hid hrf;replace hHf:=Lib.hid hHf;replace gXf:=Lib.hid gXf;clear gs;go_wp2_with fail;refine bodyPost_ret (v:=.tuple #[.agg #[.int .i64 0,.int .i64 0],errAt E g]) ?_ rfl ⟨M4,L4,V4,_,hd4.out,hl4.out,hHf.out,rfl,ho4'.out,hm4.out,gXf.out,hn4.out,.inr ⟨g,hz.out,hg.out,hs4'.out,rfl⟩⟩;exact (res_cell (b:=w.heap.size + 1) (t:=23) Tryz.results18 _ _ hrf.out rfl Tryz.underlying23 (by kernel_rfl)).trans rfl
  ·have hTb:t0 = T:=by
    unfold topC at hT;rw [if_pos hb] at hT;rw [ht0];rw [ht0] at hlt;split <;> split at hlt <;> omega
   have hn40:¬ (1099511627776:Int)≤t0:=by omega
   have hw64:IntKind.i64.wrap (t0 + 1) = (T1:Int):=by rw [wraps_i64 _ (by omega) (by omega)];omega
   replace ht0:=Lib.hid ht0;replace hT2:=Lib.hid hT2;replace hT:=Lib.hid hT;replace hT1:=Lib.hid hT1;replace hTb:=Lib.hid hTb;replace hC:=Lib.hid hC;replace h4:=Lib.hid h4;obtain ⟨wn,hwn⟩:∃ wn,wn = wz.alloc (.cells #[.int .i64 3,.int .i64 T1] 3):=⟨_,rfl⟩
   have gn:Gr wz wn:=by rw [hwn];exact (Gr.refl wz).alloc _
   have hrc:=record_no wn (some ⟨wz.heap.size,0,none⟩) 2 [3,T1] (by rw [hwn];exact nats2 wz 3 T1) (by simp;omega) (by simp);have gw2:Gr w wz:=g0.trans gz;rw [← hB.out,← hbl.out] at hrc;replace hrc:Calls Tryz.prog 37 #[.slice (some ⟨wz.heap.size,0,none⟩) 2 2,.slice none 0 0,.bool false] wn fun q w' => ∃ a c,q = .returned (.tuple #[.slice a bl c,.nilIface])∧Own wn w' a c B:=hrc
   replace hrc:=Lib.hid hrc;go_wp2_with fail;rw [← hwn];refine hrc.out.mono ?_;rintro q w3 ⟨a3,c3,rfl,ho3⟩;have h3:=(h2.out.gr gn).gr ho3.2.2.2.2;have hb3:=h2.out.own_byt gn ho3;have gw3:Gr w w3:=(gw2.trans gn).trans ho3.2.2.2.2;have hvok:=h3.v.ok;have hve:=h3.v.e;have hvn:=h3.v.n;have hvc:=h3.v.c;have hwr:=write_any w3 hE.out i0 i4 i5 i3 i6 h3 (by have:=hC.out;omega) h4.out a3 c3 B hb3 {V.s with cl:=T1} ⟨⟨hvok.1.1,hvok.1.2.1,hvok.1.2.2.1,hvok.1.2.2.2.1,hT140⟩,hvok.2⟩ (fun w1 gW1 hS1 hM1 => by
    rw [hB.out] at hS1 ⊢;refine (done_c w1 a3 c3 V.s V.a V.s.l.length V.c T1 hT140 hS1 hb3.n).mono ?_;rintro e w' ⟨rfl,g⟩;exact ⟨V.a,V.c,V.L,rfl,hve,.inr ⟨rfl,rfl⟩,hvn,hvc,g⟩)
   rw [← hbl.out] at hwr;clear d0 d1 d2 d3 d4 d5 d6 d7 dz hvok hve hvn hvc;have d0:=h3.v.b.cell (i:=0) (v:=.int .i64 V.s.pr) rfl;have d1:=h3.v.b.cell (i:=1) (v:=.int .i64 V.s.pn) rfl;have d2:=h3.v.b.cell (i:=2) (v:=.int .i64 V.s.ar) rfl;have d3:=h3.v.b.cell (i:=3) (v:=.int .i64 V.s.an) rfl;have d4:=h3.v.b.cell (i:=4) (v:=.slice V.a V.s.l.length V.c) rfl;have d5:=h3.v.b.cell (i:=5) (v:=.int .i64 V.s.cl) rfl;have d6:=h3.v.b.cell (i:=6) (v:=.int .i64 V.nu) rfl;have d7:=h3.v.b.cell (i:=7) (v:=.pointer (some ⟨lb,0,none⟩)) rfl;have dz:=h3.v.b.lt;replace hwr:=Lib.hid hwr;replace h3:=Lib.hid h3;replace hb3:=Lib.hid hb3;replace ho3:=Lib.hid ho3;go_wp2_with fail;refine hwr.out.mono ?_;rintro q w4 ⟨M4,L4,V4,rfl,hd4,hl4,hs4,hn4,h4',ho4,hm4,hg4⟩;have hown:∀ x ∈ vb :: (M.own db ++ L.own lb),x < w.heap.size:=fun x hx => by
    rcases List.mem_cons.1 hx with rfl | hx
    ·exact h.out.v.b.lt
    ·exact h.out.own_lt x hx
   have gf4:GrX (vb :: (M.own db ++ L.own lb)) w w4:=(gw3.x _).trans hg4;have ho4':∀ x ∈ M4.own db ++ L4.own lb,x ∈ M.own db ++ L.own lb ∨ w.heap.size≤x:=fun x hx => by
    rcases ho4 x hx with h5 | h5
    ·exact .inl h5
    ·have:=gw3.size;right;omega
   have hr3:=(hrz.out.gr gn).gr ho3.out.2.2.2.2;have hr3z:=hr3.lt;have hrR:=hr3.grx hg4 (fun hx => by have:=hown _ hx;omega);have hres:∀ x ∈ M4.own db ++ L4.own lb,x ≠ w.heap.size + 1:=fun x hx e => by
    rcases ho4 x hx with h5 | h5
    ·have:=hown x (List.mem_cons_of_mem _ h5);omega
    ·omega
   have hvz:=hown vb List.mem_cons_self;have hWz:=h.out.g.size;have z34:=hg4.size;clear d0 d1 d2 d3 d4 d5 d6 d7 dz;replace hd4:=Lib.hid hd4;replace hl4:=Lib.hid hl4;replace ho4:=Lib.hid ho4;replace ho4':=Lib.hid ho4';replace hm4:=Lib.hid hm4;replace hg4:=Lib.hid hg4;replace gf4:=Lib.hid gf4;replace hown:=Lib.hid hown;replace hres:=Lib.hid hres;replace hr3:=Lib.hid hr3;rcases aocE_cases E M.d L.v (snapB V.s) B with hz | ⟨g,hz,hg⟩
   ·have hq:eV E (aocE M.d L.v (snapB V.s) B) = .nilIface:=by rw [hz];rfl
    have hs4':V4.s = {V.s with cl:=T1}:=by rw [hs4,if_pos hz]
    rw [hq];have hVR:=h4'.v;have d6:=hVR.b.cell (i:=6) (v:=.int .i64 V4.nu) rfl;rw [hn4] at d6;have dz:=hVR.b.lt;have q0:=hrR.cell (i:=0) (v:=.int .i64 0) rfl;have q1:=hrR.cell (i:=1) (v:=.int .i64 0) rfl;have qf0:=hrR.free 0;have qf1:=hrR.free 1;have qz:=hrR.lt;have gs:GrX [w.heap.size + 1] w4 ((w4.setCell ⟨w.heap.size + 1,0,none⟩ (.int .i64 T1)).setCell ⟨w.heap.size + 1,1,none⟩ (.int .i64 V.nu)):=((GrX.refl [w.heap.size + 1] w4).set (p:=⟨w.heap.size + 1,0,none⟩) (.inl (by simp)) _).set (p:=⟨w.heap.size + 1,1,none⟩) (.inl (by simp)) _;have hrf:=(hrR.set 0 (.int .i64 T1)).set 1 (.int .i64 V.nu);have hHf:=h4'.res hrR gs hres.out (by omega) (by omega);have gXf:=gf4.out.trans2 gs (fun x hx => .inr (by rw [List.mem_singleton.1 hx];omega));replace hVR:=Lib.hid hVR;replace hn4:=Lib.hid hn4;replace h4':=Lib.hid h4';replace hs4:=Lib.hid hs4;replace hs4':=Lib.hid hs4';replace hz:=Lib.hid hz;replace hq:=Lib.hid hq;replace hrf:=Lib.hid hrf;replace hHf:=Lib.hid hHf;replace gXf:=Lib.hid gXf;clear gs;go_wp2_with fail;refine bodyPost_ret (v:=.tuple #[.agg #[.int .i64 T1,.int .i64 V.nu],.nilIface]) ?_ rfl ⟨M4,L4,V4,_,hd4.out,hl4.out,hHf.out,rfl,ho4'.out,hm4.out,gXf.out,hn4.out,.inl ⟨hz.out,hs4'.out,rfl⟩⟩;exact (res_cell (b:=w.heap.size + 1) (t:=23) Tryz.results18 _ _ hrf.out rfl Tryz.underlying23 (by kernel_rfl)).trans rfl
   ·have hs4':V4.s = V.s:=by rw [hs4,if_neg hz]
    rw [hg];have q0:=hrR.cell (i:=0) (v:=.int .i64 0) rfl;have q1:=hrR.cell (i:=1) (v:=.int .i64 0) rfl;have qf0:=hrR.free 0;have qf1:=hrR.free 1;have qz:=hrR.lt;have gs:GrX [w.heap.size + 1] w4 ((w4.setCell ⟨w.heap.size + 1,0,none⟩ (.int .i64 0)).setCell ⟨w.heap.size + 1,1,none⟩ (.int .i64 0)):=((GrX.refl [w.heap.size + 1] w4).set (p:=⟨w.heap.size + 1,0,none⟩) (.inl (by simp)) _).set (p:=⟨w.heap.size + 1,1,none⟩) (.inl (by simp)) _;have hrf:=(hrR.set 0 (.int .i64 0)).set 1 (.int .i64 0);have hHf:=h4'.res hrR gs hres.out (by omega) (by omega);have gXf:=gf4.out.trans2 gs (fun x hx => .inr (by rw [List.mem_singleton.1 hx];omega));replace hn4:=Lib.hid hn4;replace h4':=Lib.hid h4';replace hs4:=Lib.hid hs4;replace hs4':=Lib.hid hs4';replace hz:=Lib.hid hz;replace hg:=Lib.hid hg;replace hrf:=Lib.hid hrf;replace hHf:=Lib.hid hHf;replace gXf:=Lib.hid gXf;clear gs;go_wp2_with fail;refine bodyPost_ret (v:=.tuple #[.agg #[.int .i64 0,.int .i64 0],errAt E g]) ?_ rfl ⟨M4,L4,V4,_,hd4.out,hl4.out,hHf.out,rfl,ho4'.out,hm4.out,gXf.out,hn4.out,.inr ⟨g,hz.out,hg.out,hs4'.out,rfl⟩⟩;exact (res_cell (b:=w.heap.size + 1) (t:=23) Tryz.results18 _ _ hrf.out rfl Tryz.underlying23 (by kernel_rfl)).trans rfl
 ·have hb2:decide (b.r≤1099511627776) = false:=decide_eq_false hb;go_enter Tryz.func18,Tryz.ntmps18;go_upto_region 1 with fail
  have k0:=GrW.cell d0;have k5:=GrW.cell d5;rw [← hwa,← hw0];refine wp_region_grows (by kernel_rfl) (by kernel_rfl) ?_;repeat (any_goals (first | go_big_quiet_step (first | fail) | quiet_step (first | fail)))
  refine wpQuiet_nil ?_;intro wz hwq;have gz:=GrW.of hwq;clear hwq;obtain ⟨cz,fz,sz⟩:=gz.cells;try simp only [size_drewN] at cz fz sz
  try simp only [World.size_alloc] at cz fz sz
  try simp only [World.size_drew] at cz fz sz
  try simp only [World.size_setCell] at cz fz sz
  obtain ⟨t0,ht0⟩:∃ t0:Int,t0 = (if V.s.pr < V.s.cl then (V.s.cl:Int) else (V.s.pr:Int)):=⟨_,rfl⟩
  rw [← ht0];have pz0:=(hp0.gr gz).cell (i:=0) (v:=.int .i64 b.r) rfl;have pzz:=(hp0.gr gz).lt;have hrz:=hr0.gr gz;have h2:=h0.out.gr gz;clear d0 d1 d2 d3 d4 d5 d6 d7 dz k0 k5;have d0:=h2.v.b.cell (i:=0) (v:=.int .i64 V.s.pr) rfl;have d1:=h2.v.b.cell (i:=1) (v:=.int .i64 V.s.pn) rfl;have d2:=h2.v.b.cell (i:=2) (v:=.int .i64 V.s.ar) rfl;have d3:=h2.v.b.cell (i:=3) (v:=.int .i64 V.s.an) rfl;have d4:=h2.v.b.cell (i:=4) (v:=.slice V.a V.s.l.length V.c) rfl;have d5:=h2.v.b.cell (i:=5) (v:=.int .i64 V.s.cl) rfl;have d6:=h2.v.b.cell (i:=6) (v:=.int .i64 V.nu) rfl;have d7:=h2.v.b.cell (i:=7) (v:=.pointer (some ⟨lb,0,none⟩)) rfl;have dz:=h2.v.b.lt;replace h2:=Lib.hid h2;replace hrz:=Lib.hid hrz;have hTb:t0 = T:=by
   unfold topC at hT;rw [if_neg hb] at hT;rw [ht0];split <;> omega
  have hn40:¬ (1099511627776:Int)≤t0:=by omega
  have hw64:IntKind.i64.wrap (t0 + 1) = (T1:Int):=by rw [wraps_i64 _ (by omega) (by omega)];omega
  replace ht0:=Lib.hid ht0;replace hT2:=Lib.hid hT2;replace hT:=Lib.hid hT;replace hT1:=Lib.hid hT1;replace hTb:=Lib.hid hTb;replace hC:=Lib.hid hC;replace h4:=Lib.hid h4;obtain ⟨wn,hwn⟩:∃ wn,wn = wz.alloc (.cells #[.int .i64 3,.int .i64 T1] 3):=⟨_,rfl⟩
  have gn:Gr wz wn:=by rw [hwn];exact (Gr.refl wz).alloc _
  have hrc:=record_no wn (some ⟨wz.heap.size,0,none⟩) 2 [3,T1] (by rw [hwn];exact nats2 wz 3 T1) (by simp;omega) (by simp);have gw2:Gr w wz:=g0.trans gz;rw [← hB.out,← hbl.out] at hrc;replace hrc:Calls Tryz.prog 37 #[.slice (some ⟨wz.heap.size,0,none⟩) 2 2,.slice none 0 0,.bool false] wn fun q w' => ∃ a c,q = .returned (.tuple #[.slice a bl c,.nilIface])∧Own wn w' a c B:=hrc
  replace hrc:=Lib.hid hrc;go_wp2_with fail;rw [← hwn];refine hrc.out.mono ?_;rintro q w3 ⟨a3,c3,rfl,ho3⟩;have h3:=(h2.out.gr gn).gr ho3.2.2.2.2;have hb3:=h2.out.own_byt gn ho3;have gw3:Gr w w3:=(gw2.trans gn).trans ho3.2.2.2.2;have hvok:=h3.v.ok;have hve:=h3.v.e;have hvn:=h3.v.n;have hvc:=h3.v.c;have hwr:=write_any w3 hE.out i0 i4 i5 i3 i6 h3 (by have:=hC.out;omega) h4.out a3 c3 B hb3 {V.s with cl:=T1} ⟨⟨hvok.1.1,hvok.1.2.1,hvok.1.2.2.1,hvok.1.2.2.2.1,hT140⟩,hvok.2⟩ (fun w1 gW1 hS1 hM1 => by
   rw [hB.out] at hS1 ⊢;refine (done_c w1 a3 c3 V.s V.a V.s.l.length V.c T1 hT140 hS1 hb3.n).mono ?_;rintro e w' ⟨rfl,g⟩;exact ⟨V.a,V.c,V.L,rfl,hve,.inr ⟨rfl,rfl⟩,hvn,hvc,g⟩)
  rw [← hbl.out] at hwr;clear d0 d1 d2 d3 d4 d5 d6 d7 dz hvok hve hvn hvc;have d0:=h3.v.b.cell (i:=0) (v:=.int .i64 V.s.pr) rfl;have d1:=h3.v.b.cell (i:=1) (v:=.int .i64 V.s.pn) rfl;have d2:=h3.v.b.cell (i:=2) (v:=.int .i64 V.s.ar) rfl;have d3:=h3.v.b.cell (i:=3) (v:=.int .i64 V.s.an) rfl;have d4:=h3.v.b.cell (i:=4) (v:=.slice V.a V.s.l.length V.c) rfl;have d5:=h3.v.b.cell (i:=5) (v:=.int .i64 V.s.cl) rfl;have d6:=h3.v.b.cell (i:=6) (v:=.int .i64 V.nu) rfl;have d7:=h3.v.b.cell (i:=7) (v:=.pointer (some ⟨lb,0,none⟩)) rfl;have dz:=h3.v.b.lt;replace hwr:=Lib.hid hwr;replace h3:=Lib.hid h3;replace hb3:=Lib.hid hb3;replace ho3:=Lib.hid ho3;go_wp2_with fail;refine hwr.out.mono ?_;rintro q w4 ⟨M4,L4,V4,rfl,hd4,hl4,hs4,hn4,h4',ho4,hm4,hg4⟩;have hown:∀ x ∈ vb :: (M.own db ++ L.own lb),x < w.heap.size:=fun x hx => by
   rcases List.mem_cons.1 hx with rfl | hx
   ·exact h.out.v.b.lt
   ·exact h.out.own_lt x hx
  have gf4:GrX (vb :: (M.own db ++ L.own lb)) w w4:=(gw3.x _).trans hg4;have ho4':∀ x ∈ M4.own db ++ L4.own lb,x ∈ M.own db ++ L.own lb ∨ w.heap.size≤x:=fun x hx => by
   rcases ho4 x hx with h5 | h5
   ·exact .inl h5
   ·have:=gw3.size;right;omega
  have hr3:=(hrz.out.gr gn).gr ho3.out.2.2.2.2;have hr3z:=hr3.lt;have hrR:=hr3.grx hg4 (fun hx => by have:=hown _ hx;omega);have hres:∀ x ∈ M4.own db ++ L4.own lb,x ≠ w.heap.size + 1:=fun x hx e => by
   rcases ho4 x hx with h5 | h5
   ·have:=hown x (List.mem_cons_of_mem _ h5);omega
   ·omega
  have hvz:=hown vb List.mem_cons_self;have hWz:=h.out.g.size;have z34:=hg4.size;clear d0 d1 d2 d3 d4 d5 d6 d7 dz;replace hd4:=Lib.hid hd4;replace hl4:=Lib.hid hl4;replace ho4:=Lib.hid ho4;replace ho4':=Lib.hid ho4';replace hm4:=Lib.hid hm4;replace hg4:=Lib.hid hg4;replace gf4:=Lib.hid gf4;replace hown:=Lib.hid hown;replace hres:=Lib.hid hres;replace hr3:=Lib.hid hr3;rcases aocE_cases E M.d L.v (snapB V.s) B with hz | ⟨g,hz,hg⟩
  ·have hq:eV E (aocE M.d L.v (snapB V.s) B) = .nilIface:=by rw [hz];rfl
   have hs4':V4.s = {V.s with cl:=T1}:=by rw [hs4,if_pos hz]
   rw [hq];have hVR:=h4'.v;have d6:=hVR.b.cell (i:=6) (v:=.int .i64 V4.nu) rfl;rw [hn4] at d6;have dz:=hVR.b.lt;have q0:=hrR.cell (i:=0) (v:=.int .i64 0) rfl;have q1:=hrR.cell (i:=1) (v:=.int .i64 0) rfl;have qf0:=hrR.free 0;have qf1:=hrR.free 1;have qz:=hrR.lt;have gs:GrX [w.heap.size + 1] w4 ((w4.setCell ⟨w.heap.size + 1,0,none⟩ (.int .i64 T1)).setCell ⟨w.heap.size + 1,1,none⟩ (.int .i64 V.nu)):=((GrX.refl [w.heap.size + 1] w4).set (p:=⟨w.heap.size + 1,0,none⟩) (.inl (by simp)) _).set (p:=⟨w.heap.size + 1,1,none⟩) (.inl (by simp)) _;have hrf:=(hrR.set 0 (.int .i64 T1)).set 1 (.int .i64 V.nu);have hHf:=h4'.res hrR gs hres.out (by omega) (by omega);have gXf:=gf4.out.trans2 gs (fun x hx => .inr (by rw [List.mem_singleton.1 hx];omega));replace hVR:=Lib.hid hVR;replace hn4:=Lib.hid hn4;replace h4':=Lib.hid h4';replace hs4:=Lib.hid hs4;replace hs4':=Lib.hid hs4';replace hz:=Lib.hid hz;replace hq:=Lib.hid hq;replace hrf:=Lib.hid hrf;replace hHf:=Lib.hid hHf;replace gXf:=Lib.hid gXf;clear gs;go_wp2_with fail;refine bodyPost_ret (v:=.tuple #[.agg #[.int .i64 T1,.int .i64 V.nu],.nilIface]) ?_ rfl ⟨M4,L4,V4,_,hd4.out,hl4.out,hHf.out,rfl,ho4'.out,hm4.out,gXf.out,hn4.out,.inl ⟨hz.out,hs4'.out,rfl⟩⟩;exact (res_cell (b:=w.heap.size + 1) (t:=23) Tryz.results18 _ _ hrf.out rfl Tryz.underlying23 (by kernel_rfl)).trans rfl
  ·have hs4':V4.s = V.s:=by rw [hs4,if_neg hz]
   rw [hg];have q0:=hrR.cell (i:=0) (v:=.int .i64 0) rfl;have q1:=hrR.cell (i:=1) (v:=.int .i64 0) rfl;have qf0:=hrR.free 0;have qf1:=hrR.free 1;have qz:=hrR.lt;have gs:GrX [w.heap.size + 1] w4 ((w4.setCell ⟨w.heap.size + 1,0,none⟩ (.int .i64 0)).setCell ⟨w.heap.size + 1,1,none⟩ (.int .i64 0)):=((GrX.refl [w.heap.size + 1] w4).set (p:=⟨w.heap.size + 1,0,none⟩) (.inl (by simp)) _).set (p:=⟨w.heap.size + 1,1,none⟩) (.inl (by simp)) _;have hrf:=(hrR.set 0 (.int .i64 0)).set 1 (.int .i64 0);have hHf:=h4'.res hrR gs hres.out (by omega) (by omega);have gXf:=gf4.out.trans2 gs (fun x hx => .inr (by rw [List.mem_singleton.1 hx];omega));replace hn4:=Lib.hid hn4;replace h4':=Lib.hid h4';replace hs4:=Lib.hid hs4;replace hs4':=Lib.hid hs4';replace hz:=Lib.hid hz;replace hg:=Lib.hid hg;replace hrf:=Lib.hid hrf;replace hHf:=Lib.hid hHf;replace gXf:=Lib.hid gXf;clear gs;go_wp2_with fail;refine bodyPost_ret (v:=.tuple #[.agg #[.int .i64 0,.int .i64 0],errAt E g]) ?_ rfl ⟨M4,L4,V4,_,hd4.out,hl4.out,hHf.out,rfl,ho4'.out,hm4.out,gXf.out,hn4.out,.inr ⟨g,hz.out,hg.out,hs4'.out,rfl⟩⟩;exact (res_cell (b:=w.heap.size + 1) (t:=23) Tryz.results18 _ _ hrf.out rfl Tryz.underlying23 (by kernel_rfl)).trans rfl
structure AlP (W:World) (db lb vb:Nat) (s:VotS) (d:DskV) (v:LogV) (V:VotM) (M:DskM) (L:LogM) (w w':World):Prop where
 x:∃ M' L' V',Hold W db lb vb V' M' L' w'∧V'.s = s∧V'.nu = V.nu∧M'.d = d∧L'.v = v∧M'.m + M'.d.C.length≤M.m + M.d.C.length + 3000∧GrX (vb :: (M.own db ++ L.own lb)) w w'
theorem al_prep {G:List Nat} {E:Nat→Addr} {W:World} (w:World) (hE:EAt G E W) (i0:4 ∈ G) (i4:0 ∈ G) (i5:1 ∈ G) (i3:5 ∈ G) (i6:2 ∈ G) (i8:6 ∈ G) {db lb vb:Nat} {V:VotM} {M:DskM} {L:LogM} (h:Hold W db lb vb V M L w) (hC:M.m + M.d.C.length≤5000) (hs:V.s = vot0) (hd:M.d = alD1) (hl:L.v = alL1) :
 Calls Tryz.prog 13 #[.pointer (some ⟨vb,0,none⟩),.agg #[.int .i64 1,.int .i64 0]] w fun e w' => (∃ a c,e = .returned (.tuple #[.agg #[.int .i64 0,.int .i64 0],.slice a 0 c,.nilIface]))∧AlP W db lb vb alS1 alD2 alL2 V M L w w':=by
 refine (prep_new w hE i0 i4 i5 i3 i6 i8 h (by omega) (by rw [hd];decide) ⟨1,0⟩ 1 0 rfl rfl (by unfold mayB;rw [hs];decide) (by rw [hs];decide)).mono ?_;rintro e w' ⟨M',L',V',own,h1,h2,h3,rfl,-,h5,h6,h7,h8⟩;rw [hd,hl,hs,al_b1,al_d2.2.1] at h1;rw [hd,hl,hs,al_b1,al_d2.2.2] at h2;rw [hd,hl,hs,al_b1,al_d2.1] at h8;rcases h8 with ⟨-,h9,a,c,Lc,h10,-⟩ | ⟨g,h9,-⟩
 ·exact ⟨⟨a,c,h10⟩,⟨M',L',V',h3,h9,h7,h1,h2,h5,h6⟩⟩
 ·exact absurd rfl h9
theorem al_acc {G:List Nat} {E:Nat→Addr} {W:World} (w:World) (hE:EAt G E W) (i0:4 ∈ G) (i4:0 ∈ G) (i5:1 ∈ G) (i3:5 ∈ G) (i6:2 ∈ G) (i8:6 ∈ G) {db lb vb:Nat} {V:VotM} {M:DskM} {L:LogM} (h:Hold W db lb vb V M L w) (hC:M.m + M.d.C.length≤5000) (hs:V.s = alS1) (hd:M.d = alD2) (hl:L.v = alL2) (b off:Nat) (hM:LedM Any w (some ⟨b,off,none⟩) [⟨ale,none,0⟩]) :
 Calls Tryz.prog 14 #[.pointer (some ⟨vb,0,none⟩),.agg #[.int .i64 1,.int .i64 0],.slice (some ⟨b,off,none⟩) 1 1] w fun e w' => e = .returned .nilIface∧AlP W db lb vb alS2 alD3 alL3 V M L w w':=by
 have hsh:shN alS1.l (Ents [⟨ale,none,0⟩]) = 0:=rfl;refine (acc_go_s w hE i0 i4 i5 i3 i6 i8 h (by omega) (by rw [hd];decide) ⟨1,0⟩ 1 0 rfl rfl (by unfold mayB;rw [hs];decide) b off 1 [⟨ale,none,0⟩] hM (by decide) (by decide)).mono ?_;rintro e w' hq;obtain ⟨M',L',V',h0,h1,h2,h3,h4,h5,h6,h7,h8⟩:=hq.x;rw [hd,hl,hs,hsh] at h0 h1 h2 h3;have e2:vrB [2,1,0,0] (some ((Ents [⟨ale,none,0⟩]).drop 0)) = alB2:=al_b2;rw [e2,al_d3.1] at h0 h3;rw [e2,al_d3.2.1] at h1;rw [e2,al_d3.2.2] at h2;rw [if_pos rfl] at h3;exact ⟨h0,⟨M',L',V',h5,h3,h4,h1,h2,h7,h8⟩⟩
theorem al_claim {G:List Nat} {E:Nat→Addr} {W:World} (w:World) (hE:EAt G E W) (i0:4 ∈ G) (i4:0 ∈ G) (i5:1 ∈ G) (i3:5 ∈ G) (i6:2 ∈ G) {db lb vb:Nat} {V:VotM} {M:DskM} {L:LogM} (h:Hold W db lb vb V M L w) (hC:M.m + M.d.C.length≤50000) (hs:V.s = alS2) (hd:M.d = claimD alD3 2) (hl:L.v = opnL alD3) (hn:V.nu = 2) :
 Calls Tryz.prog 18 #[.pointer (some ⟨vb,0,none⟩),.agg #[.int .i64 0,.int .i64 0]] w fun e w' => e = .returned (.tuple #[.agg #[.int .i64 2,.int .i64 2],.nilIface])∧Gr W w'∧GrX (vb :: (M.own db ++ L.own lb)) w w':=by
 refine (claim_go w hE i0 i4 i5 i3 i6 h (by omega) (by rw [hd];decide) ⟨0,0⟩ 1 (by rw [hs];decide) (by decide)).mono ?_;rintro e w' ⟨M',L',V',own,-,-,h3,rfl,-,-,h6,-,h8⟩;have e3:vrB [3,1 + 1] none = alB3:=al_b3;rw [hd,hl,hs,e3,al_d4,hn] at h8;rcases h8 with ⟨-,-,h10⟩ | ⟨g,h9,-⟩
 ·exact ⟨h10,h3.g,h6⟩
 ·exact absurd rfl h9
set_option maxRecDepth 100000 in
set_option maxHeartbeats 6400000 in
theorem alive18_any {G:List Nat} {E:Nat→Addr} (w:World) (hE:EAt G E w) (i0:4 ∈ G) (i4:0 ∈ G) (i5:1 ∈ G) (i1:3 ∈ G) (i2:9 ∈ G) (i3:5 ∈ G) (i6:2 ∈ G) (i8:6 ∈ G) :
 Calls Tryz.prog 7 #[] w fun e w' => e = .returned (.bool true)∧Gr w w':=by
 have hnew:Calls Tryz.prog 11 #[.int .i64 40] w fun e w' => ∃ (db:Nat) (M:DskM),e = .returned (.tuple #[.pointer (some ⟨db,0,none⟩),.nilIface])∧M.d = newD 40∧M.m = 0∧DskAt w' db M∧Gr w w'∧∀ b ∈ M.own db,w.heap.size≤b:=dnew_any w 40 (by decide) (by decide)
 replace hnew:=Lib.hid hnew;replace hE:=Lib.hid hE;go_enter Tryz.func7,Tryz.ntmps7;go_wp2_with fail;refine hnew.out.mono ?_;rintro e w1 ⟨db,M1,rfl,hd1,hm1,hD1,g1,ho1⟩;have hfm:=vformat_of (W:=w) w1 hE.out g1 i0 2 (by decide) hD1 ho1 (fun w2 a c g hD hb hc hx => format_yes_z w w2 hE.out (g1.trans g) i4 i5 i1 i2 i3 i6 hD (by rw [hd1];rfl) (by rw [hm1,hd1];decide) (by rw [hd1];decide) (by rw [hd1];show numF (newR alD0) = 0;rw [al_new0];rfl) ho1 a c _ hb hc (fun x h => (hx x h).1) (by rw [al_b0];decide) (fun x h => (hx x h).2) (by rw [hd1];show fmtT alD0 < _;rw [al_t0];decide) (by rw [hd1];exact al_fits));rw [hd1,al_d1,al_l1] at hfm;replace hfm:Calls Tryz.prog 12 #[.pointer (some ⟨db,0,none⟩),.int .i64 2] w1 (VopP w db 2 vot0 alD1 alL1 M1 w1):=hfm;have hmm1:M1.m + M1.d.C.length≤0:=by rw [hm1,hd1];decide
 replace hfm:=Lib.hid hfm;replace hd1:=Lib.hid hd1;replace hm1:=Lib.hid hm1;replace hD1:=Lib.hid hD1;replace ho1:=Lib.hid ho1;go_wp2_with fail;refine hfm.out.mono ?_;rintro e w2 hq2;obtain ⟨vb,lb,V2,M2,L2,rfl,hd2,hl2,hm2,hH2,hs2,hn2,-,-,-⟩:=hq2.x;clear hq2;have hpr:=al_prep w2 hE.out i0 i4 i5 i3 i6 i8 hH2 (by omega) hs2 hd2 hl2;replace hpr:=Lib.hid hpr;replace hH2:=Lib.hid hH2;replace hd2:=Lib.hid hd2;replace hl2:=Lib.hid hl2;replace hs2:=Lib.hid hs2;replace hn2:=Lib.hid hn2;go_wp2_with fail;refine hpr.out.mono ?_;rintro e w3 ⟨⟨a3,c3,rfl⟩,hq3⟩;obtain ⟨M3,L3,V3,hH3,hs3,hn3,hd3,hl3,hm3,g3⟩:=hq3.x;clear hq3;obtain ⟨w4,hw4⟩:∃ w4,w4 = (w3.alloc (.cells #[.int .i64 0,.int .i64 0] 23)).alloc (.cells #[.int .i64 0,.int .i64 1,.int .i64 3,.int .i64 0,.int .i64 0,.int .i64 0,.int .i64 0,.int .i64 0,.slice none 0 0,.int .i64 0] 73):=⟨_,rfl⟩
 have g34:Gr w3 w4:=by rw [hw4];exact ((Gr.refl w3).alloc _).alloc _
 have hM4:LedM Any w4 (some ⟨w3.heap.size + 1,0,none⟩) [⟨ale,none,0⟩]:=by
  refine ⟨⟨?_,fun _ _ _ => trivial⟩,fun y hy => ?_⟩
  ·rw [hw4];have:=recs_alloc EntM.cells_len (w3.alloc (.cells #[.int .i64 0,.int .i64 0] 23)) [⟨ale,none,0⟩] 73 _ rfl
   rwa [World.size_alloc] at this
  ·rw [List.mem_singleton.1 hy];exact ⟨RecsIn.nil _ _ _ _ _,fun _ => rfl,Nat.le_refl _,Nat.zero_le _,by decide⟩
 have hH4:=hH3.gr g34;have hac:=al_acc w4 hE.out i0 i4 i5 i3 i6 i8 hH4 (by omega) hs3 hd3 hl3 _ _ hM4;replace hac:=Lib.hid hac;replace hH3:=Lib.hid hH3;replace hH4:=Lib.hid hH4;replace hM4:=Lib.hid hM4;replace hd3:=Lib.hid hd3;replace hl3:=Lib.hid hl3;replace hs3:=Lib.hid hs3;replace hn3:=Lib.hid hn3;replace g3:=Lib.hid g3;replace hw4:=Lib.hid hw4;go_wp2_with fail;rw [← hw4.out];refine hac.out.mono ?_;rintro e w5 ⟨rfl,hq5⟩;obtain ⟨M5,L5,V5,hH5,hs5,hn5,hd5,hl5,hm5,g5⟩:=hq5.x;clear hq5;have hcr:=dcrash_nil w5 hH5.d (by rw [hd5];rfl) 0 (-1);rw [hd5,al_crash] at hcr;replace hcr:Calls Tryz.prog 27 #[.pointer (some ⟨db,0,none⟩),.int .u64 0,.int .i64 (-1)] w5 fun e w' => ∃ M',e = .returned (.tuple #[])∧DskP db alD3 M5 M' w5 w'∧M'.m = M5.m:=hcr
 have hmw5:=hH5.mw;have gW5:=hH5.g;replace hcr:=Lib.hid hcr;replace hH5:=Lib.hid hH5;replace hd5:=Lib.hid hd5;replace hl5:=Lib.hid hl5;replace hs5:=Lib.hid hs5;replace hn5:=Lib.hid hn5;replace g5:=Lib.hid g5;go_wp2_with fail;refine hcr.out.mono ?_;rintro e w6 ⟨M6,rfl,hP6,hm6⟩;obtain ⟨hd6,hD6,g6,ho6⟩:=hP6;have gW6:Gr w w6:=GrX.all gW5 g6 hmw5;have hmw6:∀ b ∈ M6.own db,w.heap.size≤b:=fun b hb => by
  rcases ho6 b hb with h | h
  ·exact hmw5 b h
  ·have:=gW5.size;omega
 have hC6:M6.m + M6.d.C.length≤7000:=by
  have h1:M6.d.C.length = 0:=by rw [hd6];rfl
  omega
 have hop:=vopen_of (W:=w) w6 hE.out gW6 i0 2 (by decide) hmw6 (open_yes w w6 hE.out gW6 i4 i5 i1 i2 i3 i6 hD6 (by rw [hd6];rfl) (by omega) (by rw [hd6];decide) (by rw [hd6,al_new3];decide) (by rw [hd6,al_t3];decide)) vot0_ok (by rw [hd6,al_new3,al_b0];rfl) al_replay (by decide);rw [hd6,al_t3] at hop;replace hop:Calls Tryz.prog 20 #[.pointer (some ⟨db,0,none⟩),.int .i64 2] w6 (VopP w db 2 alS2 (claimD alD3 2) (opnL alD3) M6 w6):=hop;replace hop:=Lib.hid hop;replace hd6:=Lib.hid hd6;replace hD6:=Lib.hid hD6;replace ho6:=Lib.hid ho6;replace g6:=Lib.hid g6;go_wp2_with fail;refine hop.out.mono ?_;rintro e w7 hq7;obtain ⟨vb7,lb7,V7,M7,L7,rfl,hd7,hl7,hm7,hH7,hs7,hn7,-,-,-⟩:=hq7.x;clear hq7;have hva:=vaccepted_any w7 hH7.v;rw [hs7] at hva;replace hva:Calls Tryz.prog 16 #[.pointer (some ⟨vb7,0,none⟩)] w7 fun e w' => (∃ a c L,e = .returned (.tuple #[.agg #[.int .i64 1,.int .i64 0],.slice a 1 c])∧Ents L = alS2.l∧LedM (fun b => w7.heap.size≤b) w' a L∧(a = none→c = 0)∧alS2.l.length≤c)∧Gr w7 w':=hva
 replace hva:=Lib.hid hva;replace hH7:=Lib.hid hH7;replace hs7:=Lib.hid hs7;replace hd7:=Lib.hid hd7;replace hl7:=Lib.hid hl7;replace hn7:=Lib.hid hn7;go_wp2_with fail;refine hva.out.mono ?_;rintro e w8 ⟨⟨a8,c8,L8,rfl,-,-,-,-⟩,g8⟩;obtain ⟨w9,hw9⟩:∃ w9,w9 = w8.alloc (.cells #[.int .i64 1,.int .i64 0] 23):=⟨_,rfl⟩
 have g89:Gr w8 w9:=by rw [hw9];exact (Gr.refl w8).alloc _
 have hb9:Blk w9 w8.heap.size #[.int .i64 1,.int .i64 0] 23:=by rw [hw9];exact Blk.new _ _ _
 have hH9:=hH7.out.gr (g8.trans g89);have hcl:=al_claim w9 hE.out i0 i4 i5 i3 i6 hH9 (by omega) hs7.out hd7.out hl7.out hn7.out;have hlt:∀ x ∈ vb7 :: (M7.own db ++ L7.own lb7),x < w7.heap.size:=fun x hx => by
  rcases List.mem_cons.1 hx with rfl | hx
  ·exact hH7.out.v.b.lt
  ·exact hH7.out.own_lt x hx
 have z8:=g8.size;replace hcl:=Lib.hid hcl;replace hH9:=Lib.hid hH9;replace hb9:=Lib.hid hb9;replace hw9:=Lib.hid hw9;replace hlt:=Lib.hid hlt;go_wp2_with fail;rw [← hw9.out];refine hcl.out.mono ?_;rintro e wa ⟨rfl,gWa,ga⟩;have hba:=hb9.out.grx ga (fun hm => by have:=hlt.out _ hm;omega);have x0:=hba.cell (i:=0) (v:=.int .i64 1) rfl;have xz:=hba.lt;have y0:(wa.alloc (.cells #[.int .i64 2,.int .i64 2] 23)).cell? ⟨w8.heap.size,0,none⟩ = some (.int .i64 1):=(hba.gr ((Gr.refl wa).alloc _)).cell (i:=0) (v:=.int .i64 1) rfl;have gf:Gr w (wa.alloc (.cells #[.int .i64 2,.int .i64 2] 23)):=gWa.alloc _;have hbq:=fun w => bal_eql 2 2 2 2 w
 replace hba:=Lib.hid hba;replace ga:=Lib.hid ga;go_wp2_with fail;go_ret;exact ⟨rfl,gf⟩
theorem voterNumbers_any {G:List Nat} {E:Nat→Addr} (w:World) (hE:EAt G E w) (i0:4 ∈ G) (i4:0 ∈ G) (i5:1 ∈ G) (i1:3 ∈ G) (i2:9 ∈ G) (i3:5 ∈ G) (i6:2 ∈ G) (i8:6 ∈ G) (a b:Bal) (n:Int) (hn1:-9223372036854775808≤n) (hn:n≤9223372036854775807) :
 Calls Tryz.prog 3 #[.agg #[.int .i64 a.r,.int .i64 a.n],.agg #[.int .i64 b.r,.int .i64 b.n],.int .i64 n] w fun e w' => e = .returned (.bool true)∧Gr w w':=by
 have hal:=fun w0 (g:Gr w w0) => alive18_any w0 (hE.gr g) i0 i4 i5 i1 i2 i3 i6 i8
 obtain ⟨ar,an⟩:=a;obtain ⟨br,bn⟩:=b;by_cases h1:ar = br
 ·subst h1;by_cases h2:an = bn
  ·subst h2;by_cases hs:n < 1
   ·exact vn_A_lt w hal ⟨ar,an⟩ n hn1 hn hs
   ·exact vn_A_ge w hal ⟨ar,an⟩ n hn1 hn hs
  ·by_cases hs:n < 1
   ·exact vn_C_lt w hal ⟨ar,an⟩ bn h2 n hn1 hn hs
   ·exact vn_C_ge w hal ⟨ar,an⟩ bn h2 n hn1 hn hs
 ·by_cases hs:n < 1
  ·exact vn_B_lt w hal ⟨ar,an⟩ ⟨br,bn⟩ h1 n hn1 hn hs
  ·exact vn_B_ge w hal ⟨ar,an⟩ ⟨br,bn⟩ h1 n hn1 hn hs
end Go.Proofs.YteigofaccjaobaaGreatDoor
