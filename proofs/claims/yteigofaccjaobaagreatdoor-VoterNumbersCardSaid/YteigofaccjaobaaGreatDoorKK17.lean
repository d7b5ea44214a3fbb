/- Voter.Prepare of a new promise. Printed by gen_o16.py. -/
import Derived.Test.YteigofaccjaobaaGreatDoorKK16
namespace Go.Proofs.YteigofaccjaobaaGreatDoor
open Go.RowKit
theorem aocE_cases (E:Nat→Addr) (d:DskV) (v:LogV) (sb b:List UInt8):aocE d v sb b = 0 ∨ ∃ g,aocE d v sb b ≠ 0∧eV E (aocE d v sb b) = errAt E g:=by
 have key:∀ k,(k = 7 ∨ k = 8 ∨ k = 9)→∃ g,k ≠ 0∧eV E k = errAt E g:=fun k hk => by
  rcases hk with rfl | rfl | rfl
  ·exact ⟨_,by decide,rfl⟩
  ·exact ⟨_,by decide,rfl⟩
  ·exact ⟨_,by decide,rfl⟩
 unfold aocE;by_cases h7:appE d v b = 7
 ·rw [if_pos h7];by_cases h0:chkE d v sb = 0
  ·rw [if_pos h0];rcases appE_cases (chkD d v sb) (chkL d v sb) b with ⟨h,_⟩ | h
   ·exact .inl h
   ·exact .inr (key _ h)
  ·rw [if_neg h0];rcases chkE_cases d v sb with ⟨h,_⟩ | h
   ·exact absurd h h0
   ·exact .inr (key _ h)
 ·rw [if_neg h7];rcases appE_cases d v b with ⟨h,_⟩ | h
  ·exact .inl h
  ·exact .inr (key _ h)
theorem nats3 (w:World) (a b c:Nat):RecsAt 1 natC (w.alloc (.cells #[.int .i64 a,.int .i64 b,.int .i64 c] 3)) (some ⟨w.heap.size,0,none⟩) [a,b,c]:=recs_alloc natC_len w [a,b,c] _ _ rfl
set_option maxRecDepth 100000 in
set_option maxHeartbeats 12800000 in
theorem prep_new {G:List Nat} {E:Nat→Addr} {W:World} (w:World) (hE:EAt G E W) (i0:4 ∈ G) (i4:0 ∈ G) (i5:1 ∈ G) (i3:5 ∈ G) (i6:2 ∈ G) (i8:6 ∈ G) {db lb vb:Nat} {V:VotM} {M:DskM} {L:LogM} (h:Hold W db lb vb V M L w) (hC:M.m + M.d.C.length≤880000) (h4:4≤M.d.n) (b:Bal) (r m:Nat) (hbr:b.r = r) (hbm:b.n = m) (hm:mayB V b = true) (hs:¬ ((V.s.pr:Int) = b.r∧(V.s.pn:Int) = b.n)) :
 Calls Tryz.prog 13 #[.pointer (some ⟨vb,0,none⟩),.agg #[.int .i64 b.r,.int .i64 b.n]] w fun e w' => ∃ M' L' V' own,M'.d = wrtD M.d L.v (snapB V.s) (vrB [1,r,m] none)∧L'.v = aocL M.d L.v (snapB V.s) (vrB [1,r,m] none)∧Hold W db lb vb V' M' L' w'∧own = M.own db ++ L.own lb∧(∀ b ∈ M'.own db ++ L'.own lb,b ∈ own ∨ w.heap.size≤b)∧M'.m + M'.d.C.length≤M.m + M.d.C.length + 3000∧GrX (vb :: own) w w'∧V'.nu = V.nu ∧
  ((aocE M.d L.v (snapB V.s) (vrB [1,r,m] none) = 0∧V'.s = {V.s with pr:=r,pn:=m}∧∃ a c Lc,e = .returned (.tuple #[.agg #[.int .i64 V.s.ar,.int .i64 V.s.an],.slice a V.s.l.length c,.nilIface])∧Ents Lc = V.s.l∧LedM (fun b => w.heap.size≤b) w' a Lc∧(a = none→c = 0)∧V.s.l.length≤c)
   ∨ (∃ g,aocE M.d L.v (snapB V.s) (vrB [1,r,m] none) ≠ 0∧eV E (aocE M.d L.v (snapB V.s) (vrB [1,r,m] none)) = errAt E g∧V'.s = V.s∧e = .returned (.tuple #[.agg #[.int .i64 0,.int .i64 0],.slice none 0 0,errAt E g]))):=by
 obtain ⟨B,hB⟩:∃ B,B = vrB [1,r,m] none:=⟨_,rfl⟩
 rw [← hB];replace hB:=Lib.hid hB;obtain ⟨bl,hbl⟩:∃ bl,bl = B.length:=⟨_,rfl⟩
 replace hbl:=Lib.hid hbl;have hleg:1≤b.r∧b.r≤1099511627776∧0≤b.n∧b.n≤6:=by
  unfold mayB at hm;rw [Bool.and_eq_true] at hm;exact of_decide_eq_true hm.1
 obtain ⟨hl1,hl2,hl3,hl4⟩:=hleg;have hr40:r≤1099511627776:=by omega
 have hm40:m≤1099511627776:=by omega
 obtain ⟨wa,hwa⟩:∃ wa,wa = w.alloc (.cells #[.int .i64 b.r,.int .i64 b.n] 23):=⟨_,rfl⟩
 obtain ⟨w0,hw0⟩:∃ w0,w0 = wa.alloc (.cells #[.int .i64 0,.int .i64 0] 23):=⟨_,rfl⟩
 have ga:Gr w wa:=by rw [hwa];exact (Gr.refl w).alloc _
 have gb:Gr wa w0:=by rw [hw0];exact (Gr.refl wa).alloc _
 have g0:=ga.trans gb;have hsa:wa.heap.size = w.heap.size + 1:=by rw [hwa];simp
 have hp0:Blk w0 w.heap.size #[.int .i64 b.r,.int .i64 b.n] 23:=Blk.gr (by rw [hwa];exact Blk.new _ _ _) gb;have hr0:Blk w0 (w.heap.size + 1) #[.int .i64 0,.int .i64 0] 23:=by rw [hw0,← hsa];exact Blk.new _ _ _
 have hma:Calls Tryz.prog 36 #[.pointer (some ⟨vb,0,none⟩),.agg #[.int .i64 b.r,.int .i64 b.n]] w0 fun e w' => e = .returned (badE E V b)∧Gr w0 w':=may_any w0 (hE.gr (h.g.trans g0)) i5 i8 (h.v.gr g0) b
 rw [may_yes hm] at hma;have hbq:=fun w => bal_neq V.s.pr V.s.pn b.r b.n w
 rw [decide_eq_false hs] at hbq;rw [hbr,hbm] at hbq hma hp0 ⊢;have p0:=hp0.cell (i:=0) (v:=.int .i64 r) rfl;have p1:=hp0.cell (i:=1) (v:=.int .i64 m) rfl;have pz:=hp0.lt;rw [hbr,hbm] at hwa;replace hma:=Lib.hid hma;replace h:=Lib.hid h;replace hE:=Lib.hid hE;replace hs:=Lib.hid hs;go_enter Tryz.func13,Tryz.ntmps13;go_wp2_with fail;rw [← hwa,← hw0];refine hma.out.mono ?_;rintro q w1 ⟨rfl,g1⟩;have h1:=h.out.gr (g0.trans g1);have d0:=h1.v.b.cell (i:=0) (v:=.int .i64 V.s.pr) rfl;have d1:=h1.v.b.cell (i:=1) (v:=.int .i64 V.s.pn) rfl;have d2:=h1.v.b.cell (i:=2) (v:=.int .i64 V.s.ar) rfl;have d3:=h1.v.b.cell (i:=3) (v:=.int .i64 V.s.an) rfl;have d4:=h1.v.b.cell (i:=4) (v:=.slice V.a V.s.l.length V.c) rfl;have d5:=h1.v.b.cell (i:=5) (v:=.int .i64 V.s.cl) rfl;have d6:=h1.v.b.cell (i:=6) (v:=.int .i64 V.nu) rfl;have d7:=h1.v.b.cell (i:=7) (v:=.pointer (some ⟨lb,0,none⟩)) rfl;have dz:=h1.v.b.lt;have hp1:=hp0.gr g1;have r0:=hp1.cell (i:=0) (v:=.int .i64 r) rfl;have r1:=hp1.cell (i:=1) (v:=.int .i64 m) rfl;have rz:=hp1.lt;clear p0 p1 pz;have k0:=GrW.cell d0;have k1:=GrW.cell d1;have k2:=GrW.cell r0;have k3:=GrW.cell r1;replace h1:=Lib.hid h1;go_upto_region 4 with fail
 refine wp_region_grows (by kernel_rfl) (by kernel_rfl) ?_;repeat (any_goals (first | go_big_quiet_step (first | fail) | quiet_step (first | fail)))
 refine wpQuiet_nil ?_;intro wz hwq;have gz:=GrW.of hwq;clear hwq;obtain ⟨cz,fz,sz⟩:=gz.cells;try simp only [size_drewN] at cz fz sz
 try simp only [World.size_alloc] at cz fz sz
 try simp only [World.size_drew] at cz fz sz
 try simp only [World.size_setCell] at cz fz sz
 have h2:=h1.out.gr gz;clear k0 k1 k2 k3 d0 d1 d2 d3 d4 d5 d6 d7 dz r0 r1 rz;have d0:=h2.v.b.cell (i:=0) (v:=.int .i64 V.s.pr) rfl;have d1:=h2.v.b.cell (i:=1) (v:=.int .i64 V.s.pn) rfl;have d2:=h2.v.b.cell (i:=2) (v:=.int .i64 V.s.ar) rfl;have d3:=h2.v.b.cell (i:=3) (v:=.int .i64 V.s.an) rfl;have d4:=h2.v.b.cell (i:=4) (v:=.slice V.a V.s.l.length V.c) rfl;have d5:=h2.v.b.cell (i:=5) (v:=.int .i64 V.s.cl) rfl;have d6:=h2.v.b.cell (i:=6) (v:=.int .i64 V.nu) rfl;have d7:=h2.v.b.cell (i:=7) (v:=.pointer (some ⟨lb,0,none⟩)) rfl;have dz:=h2.v.b.lt;have hp2:=hp1.gr gz;have r0:=hp2.cell (i:=0) (v:=.int .i64 r) rfl;have r1:=hp2.cell (i:=1) (v:=.int .i64 m) rfl;have rz:=hp2.lt;obtain ⟨wn,hwn⟩:∃ wn,wn = wz.alloc (.cells #[.int .i64 1,.int .i64 r,.int .i64 m] 3):=⟨_,rfl⟩
 have gn:Gr wz wn:=by rw [hwn];exact (Gr.refl wz).alloc _
 have hrc:=record_no wn (some ⟨wz.heap.size,0,none⟩) 3 [1,r,m] (by rw [hwn];exact nats3 wz 1 r m) (by simp;omega) (by simp);have gw2:Gr w wz:=(g0.trans g1).trans gz;rw [← hB.out,← hbl.out] at hrc;replace hrc:Calls Tryz.prog 37 #[.slice (some ⟨wz.heap.size,0,none⟩) 3 3,.slice none 0 0,.bool false] wn fun q w' => ∃ a c,q = .returned (.tuple #[.slice a bl c,.nilIface])∧Own wn w' a c B:=hrc
 replace hrc:=Lib.hid hrc;replace h2:=Lib.hid h2;go_wp2_with fail;rw [← hwn];refine hrc.out.mono ?_;rintro q w3 ⟨a3,c3,rfl,ho3⟩;have h3:=(h2.out.gr gn).gr ho3.2.2.2.2;have hb3:=h2.out.own_byt gn ho3;have gw3:Gr w w3:=(gw2.trans gn).trans ho3.2.2.2.2;have hvok:=h3.v.ok;have hve:=h3.v.e;have hvn:=h3.v.n;have hvc:=h3.v.c;have hwr:=write_any w3 hE.out i0 i4 i5 i3 i6 h3 (by omega) h4 a3 c3 B hb3 {V.s with pr:=r,pn:=m} ⟨⟨hr40,hm40,hvok.1.2.2.1,hvok.1.2.2.2.1,hvok.1.2.2.2.2⟩,hvok.2⟩ (fun w1 gW1 hS1 hM1 => by
  rw [hB.out] at hS1 ⊢;refine (done_p w1 a3 c3 V.s V.a V.s.l.length V.c r m hr40 hm40 hS1 hb3.n).mono ?_;rintro e w' ⟨rfl,g⟩;exact ⟨V.a,V.c,V.L,rfl,hve,.inr ⟨rfl,rfl⟩,hvn,hvc,g⟩)
 rw [← hbl.out] at hwr;clear d0 d1 d2 d3 d4 d5 d6 d7 dz r0 r1 rz hvok hve hvn hvc;have d0:=h3.v.b.cell (i:=0) (v:=.int .i64 V.s.pr) rfl;have d1:=h3.v.b.cell (i:=1) (v:=.int .i64 V.s.pn) rfl;have d2:=h3.v.b.cell (i:=2) (v:=.int .i64 V.s.ar) rfl;have d3:=h3.v.b.cell (i:=3) (v:=.int .i64 V.s.an) rfl;have d4:=h3.v.b.cell (i:=4) (v:=.slice V.a V.s.l.length V.c) rfl;have d5:=h3.v.b.cell (i:=5) (v:=.int .i64 V.s.cl) rfl;have d6:=h3.v.b.cell (i:=6) (v:=.int .i64 V.nu) rfl;have d7:=h3.v.b.cell (i:=7) (v:=.pointer (some ⟨lb,0,none⟩)) rfl;have dz:=h3.v.b.lt;replace hwr:=Lib.hid hwr;replace h3:=Lib.hid h3;replace hb3:=Lib.hid hb3;replace ho3:=Lib.hid ho3;go_wp2_with fail;refine hwr.out.mono ?_;rintro q w4 ⟨M4,L4,V4,rfl,hd4,hl4,hs4,hn4,h4',ho4,hm4,hg4⟩;have hown:∀ x ∈ vb :: (M.own db ++ L.own lb),x < w.heap.size:=fun x hx => by
  rcases List.mem_cons.1 hx with rfl | hx
  ·exact h.out.v.b.lt
  ·exact h.out.own_lt x hx
 have gf4:GrX (vb :: (M.own db ++ L.own lb)) w w4:=(gw3.x _).trans hg4;have ho4':∀ x ∈ M4.own db ++ L4.own lb,x ∈ M.own db ++ L.own lb ∨ w.heap.size≤x:=fun x hx => by
  rcases ho4 x hx with h5 | h5
  ·exact .inl h5
  ·have:=gw3.size;right;omega
 have hr3:=(((hr0.gr g1).gr gz).gr gn).gr ho3.out.2.2.2.2;have hr3z:=hr3.lt;have hrR:=hr3.grx hg4 (fun hx => by have:=hown _ hx;omega);have hres:∀ x ∈ M4.own db ++ L4.own lb,x ≠ w.heap.size + 1:=fun x hx e => by
  rcases ho4 x hx with h5 | h5
  ·have:=hown x (List.mem_cons_of_mem _ h5);omega
  ·omega
 have hvz:=hown vb List.mem_cons_self;have hWz:=h.out.g.size;have z34:=hg4.size;clear d0 d1 d2 d3 d4 d5 d6 d7 dz;replace hd4:=Lib.hid hd4;replace hl4:=Lib.hid hl4;replace hn4:=Lib.hid hn4;replace ho4:=Lib.hid ho4;replace ho4':=Lib.hid ho4';replace hm4:=Lib.hid hm4;replace hg4:=Lib.hid hg4;replace gf4:=Lib.hid gf4;replace hown:=Lib.hid hown;replace hres:=Lib.hid hres;replace hr3:=Lib.hid hr3;rcases aocE_cases E M.d L.v (snapB V.s) B with hz | ⟨g,hz,hg⟩
 ·have hq:eV E (aocE M.d L.v (snapB V.s) B) = .nilIface:=by rw [hz];rfl
  have hs4':V4.s = {V.s with pr:=r,pn:=m}:=by rw [hs4,if_pos hz]
  rw [hq];have hVR:=h4'.v;have hVL:V4.L.length = V4.s.l.length:=by rw [← hVR.e,List.length_map]
  have hl64:=(ledF_iff.1 hVR.ok.2).1;have d0:=hVR.b.cell (i:=0) (v:=.int .i64 V4.s.pr) rfl;have d1:=hVR.b.cell (i:=1) (v:=.int .i64 V4.s.pn) rfl;have d2:=hVR.b.cell (i:=2) (v:=.int .i64 V4.s.ar) rfl;have d3:=hVR.b.cell (i:=3) (v:=.int .i64 V4.s.an) rfl;have d4:=hVR.b.cell (i:=4) (v:=.slice V4.a V4.s.l.length V4.c) rfl;have d5:=hVR.b.cell (i:=5) (v:=.int .i64 V4.s.cl) rfl;have d6:=hVR.b.cell (i:=6) (v:=.int .i64 V4.nu) rfl;have d7:=hVR.b.cell (i:=7) (v:=.pointer (some ⟨lb,0,none⟩)) rfl;have dz:=hVR.b.lt;have q0:=hrR.cell (i:=0) (v:=.int .i64 0) rfl;have q1:=hrR.cell (i:=1) (v:=.int .i64 0) rfl;have qf0:=hrR.free 0;have qf1:=hrR.free 1;have qz:=hrR.lt;replace h4':=Lib.hid h4';replace hs4:=Lib.hid hs4;replace hs4':=Lib.hid hs4';replace hz:=Lib.hid hz;replace hq:=Lib.hid hq;go_wp2_with fail;have hcp:=fun w' (g:Gr w4 w') => vcopied_any V4.a V4.c V4.L w' ((hVR.m.gr g).mono fun _ _ _ => trivial) (by rw [hVL];omega)
  rw [hVL] at hcp;replace hcp:=Lib.hid hcp;replace hVR:=Lib.hid hVR;go_region_held3 (fun w' => w'.cell? ⟨vb,2,none⟩ = some (.int .i64 V4.s.ar)∧w'.cell? ⟨vb,3,none⟩ = some (.int .i64 V4.s.an)∧w'.cell? ⟨vb,4,none⟩ = some (.slice V4.a V4.s.l.length V4.c)) (simp (maxDischargeDepth:=8) [go_sem, *])
   (first
    | (go_at_call 39;(with_reducible refine (hcp.out _ ?hg).mono ?_);(case hg => repeat (first | exact Gr.refl _ | refine Gr.alloc ?_ _ | refine Gr.drew ?_));rintro e wX ⟨aX,cX,LX,rfl,hmX,hMX,hnX,hcX1,hcX2,gX,-,-⟩;rw [hVL] at hcX1 ⊢;have hVX:=hVR.out.gr (((Gr.refl w4).drew).trans gX);have x2:=hVX.b.cell (i:=2) (v:=.int .i64 V4.s.ar) rfl;have x3:=hVX.b.cell (i:=3) (v:=.int .i64 V4.s.an) rfl;have x4:=hVX.b.cell (i:=4) (v:=.slice V4.a V4.s.l.length V4.c) rfl;have hrX:=hrR.gr (((Gr.refl w4).drew).trans gX);have y0:=hrX.cell (i:=0) (v:=.int .i64 0) rfl;have y1:=hrX.cell (i:=1) (v:=.int .i64 0) rfl;have yf0:=hrX.free 0;have yf1:=hrX.free 1;have yz:=hrX.lt;have vz:=hVX.b.lt;replace hVX:=Lib.hid hVX)
    | fail)
  have gRX:Gr w4 wX:=((Gr.refl w4).drew).trans gX;have hrX:=hrR.gr gRX;have hrf:=(hrX.set 0 (.int .i64 V4.s.ar)).set 1 (.int .i64 V4.s.an);have gs:GrX [w.heap.size + 1] wX ((wX.setCell ⟨w.heap.size + 1,0,none⟩ (.int .i64 V4.s.ar)).setCell ⟨w.heap.size + 1,1,none⟩ (.int .i64 V4.s.an)):=((GrX.refl [w.heap.size + 1] wX).set (p:=⟨w.heap.size + 1,0,none⟩) (.inl (by simp)) _).set (p:=⟨w.heap.size + 1,1,none⟩) (.inl (by simp)) _;obtain ⟨wf,hwf⟩:∃ wf,wf = ((wX.setCell ⟨w.heap.size + 1,0,none⟩ (.int .i64 V4.s.ar)).setCell ⟨w.heap.size + 1,1,none⟩ (.int .i64 V4.s.an)):=⟨_,rfl⟩
  rw [← hwf] at hrf gs ⊢;have zR2:w.heap.size + 1 < w4.heap.size:=hrR.lt;have hEX:Ents LX = V4.s.l:=hmX.trans hVR.out.e;have hMX2:LedM (fun b => w.heap.size≤b) wf aX LX:=(hMX.grx gs (fun y hy hk => by rw [List.mem_singleton.1 hy] at hk;simp only [World.size_drew] at hk;omega)).mono (fun b _ hk => by simp only [World.size_drew] at hk;omega);have hHf:=(h4'.out.gr gRX).res hrX gs hres.out (by omega) (by omega);have gXf:GrX (vb :: (M.own db ++ L.own lb)) w wf:=(gf4.out.gr gRX).trans2 gs (fun x hx => .inr (by rw [List.mem_singleton.1 hx];omega));have e1:V4.s.ar = V.s.ar:=by rw [hs4'.out]
  have e2:V4.s.an = V.s.an:=by rw [hs4'.out]
  have e3:V4.s.l = V.s.l:=by rw [hs4'.out]
  replace hMX2:=Lib.hid hMX2;replace hrf:=Lib.hid hrf;replace hHf:=Lib.hid hHf;replace gXf:=Lib.hid gXf;replace e1:=Lib.hid e1;replace e2:=Lib.hid e2;replace e3:=Lib.hid e3;clear gs hwf;go_wp2_with fail;refine bodyPost_ret (v:=.tuple #[.agg #[.int .i64 V4.s.ar,.int .i64 V4.s.an],.slice aX V4.s.l.length cX,.nilIface]) ?_ rfl ⟨M4,L4,V4,_,hd4.out,hl4.out,hHf.out,rfl,ho4'.out,hm4.out,gXf.out,hn4.out,.inl ⟨hz.out,hs4'.out,aX,cX,LX,by rw [e1.out,e2.out,e3.out],by rw [hEX,e3.out],hMX2.out,hnX,by rw [← e3.out];exact hcX1⟩⟩;exact (res_cell3 (b:=w.heap.size + 1) (t:=23) Tryz.results13 _ _ hrf.out rfl Tryz.underlying23 (by kernel_rfl)).trans rfl
 ·have hs4':V4.s = V.s:=by rw [hs4,if_neg hz]
  rw [hg];have q0:=hrR.cell (i:=0) (v:=.int .i64 0) rfl;have q1:=hrR.cell (i:=1) (v:=.int .i64 0) rfl;have qf0:=hrR.free 0;have qf1:=hrR.free 1;have qz:=hrR.lt;have gs:GrX [w.heap.size + 1] w4 ((w4.setCell ⟨w.heap.size + 1,0,none⟩ (.int .i64 0)).setCell ⟨w.heap.size + 1,1,none⟩ (.int .i64 0)):=((GrX.refl [w.heap.size + 1] w4).set (p:=⟨w.heap.size + 1,0,none⟩) (.inl (by simp)) _).set (p:=⟨w.heap.size + 1,1,none⟩) (.inl (by simp)) _;have hrf:=(hrR.set 0 (.int .i64 0)).set 1 (.int .i64 0);have hHf:=h4'.res hrR gs hres.out (by omega) (by omega);have gXf:=gf4.out.trans2 gs (fun x hx => .inr (by rw [List.mem_singleton.1 hx];omega));replace h4':=Lib.hid h4';replace hs4:=Lib.hid hs4;replace hs4':=Lib.hid hs4';replace hz:=Lib.hid hz;replace hg:=Lib.hid hg;replace hrf:=Lib.hid hrf;replace hHf:=Lib.hid hHf;replace gXf:=Lib.hid gXf;clear gs;go_wp2_with fail;refine bodyPost_ret (v:=.tuple #[.agg #[.int .i64 0,.int .i64 0],.slice none 0 0,errAt E g]) ?_ rfl ⟨M4,L4,V4,_,hd4.out,hl4.out,hHf.out,rfl,ho4'.out,hm4.out,gXf.out,hn4.out,.inr ⟨g,hz.out,hg.out,hs4'.out,rfl⟩⟩;exact (res_cell3 (b:=w.heap.size + 1) (t:=23) Tryz.results13 _ _ hrf.out rfl Tryz.underlying23 (by kernel_rfl)).trans rfl
abbrev vot0:VotS:=⟨0,0,0,0,[],0⟩
theorem vot0_ok:vot0.ok:=⟨⟨by decide,by decide,by decide,by decide,by decide⟩,ledF_iff.2 ⟨by simp,fun e he => by cases he⟩⟩
abbrev ale:Ent:=⟨0,1,3,0,⟨0,0,0⟩,0,[],0⟩
abbrev alB0:List UInt8:=[0,0,0,0,0,1,0]
abbrev alB1:List UInt8:=[1,1,0]
abbrev alB2:List UInt8:=[2,1,0,0,12,1,10,0,1,3,0,0,0,0,0,0,0]
abbrev alB3:List UInt8:=[3,2]
theorem al_b0:snapB vot0 = alB0:=by simp [snapB,numsB,ledB,numB_small]
theorem al_b1:vrB [1,1,0] none = alB1:=by simp [vrB,numsB,numB_small]
theorem al_b2:vrB [2,1,0,0] (some [ale]) = alB2:=by simp [vrB,numsB,ledB,itemB,listB,entN,headN,numB_small]
theorem al_b3:vrB [3,2] none = alB3:=by simp [vrB,numsB,numB_small]
theorem al_rec {g e i:Nat} {d:List UInt8} (hg:g < 128) (he:e < 128) (hi:i < 128) (hd:d.length < 128):recB ⟨g,e,i,d⟩ = UInt8.ofNat g :: UInt8.ofNat e :: UInt8.ofNat i :: UInt8.ofNat d.length :: d:=by
 simp [recB,numB_small,hg,he,hi,hd]
theorem al_cost {g e i:Nat} {d:List UInt8} (hg:g < 128) (he:e < 128) (hi:i < 128) (hd:d.length≤40):costR ⟨g,e,i,d⟩ = 1:=by
 unfold costR frR;rw [frameB_len,al_rec hg he hi (by omega)];unfold costN;simp;omega
abbrev alR0:Rc:=⟨1,1,0,alB0⟩
abbrev alR1:Rc:=⟨1,1,1,alB1⟩
abbrev alR2:Rc:=⟨1,1,2,alB2⟩
theorem al_f0:frR alR0 = frameB [1,1,0,7,0,0,0,0,0,1,0]:=by unfold frR;rw [al_rec (by decide) (by decide) (by decide) (by decide)];rfl
theorem al_f1:frR alR1 = frameB [1,1,1,3,1,1,0]:=by unfold frR;rw [al_rec (by decide) (by decide) (by decide) (by decide)];rfl
theorem al_f2:frR alR2 = frameB ([1,1,2,17] ++ alB2):=by unfold frR;rw [al_rec (by decide) (by decide) (by decide) (by decide)];rfl
def alD0:DskV:=newD 40
def alD1:DskV:=(putD ((alD0.write 39 (pad (frameB [1]))).flush) 0 (frameB [1,1,0,7,0,0,0,0,0,1,0])).flush
def alD2:DskV:=(putD alD1 1 (frameB [1,1,1,3,1,1,0])).flush
def alD3:DskV:=(putD alD2 2 (frameB ([1,1,2,17] ++ alB2))).flush
theorem scan_step {f u:Nat} {L:List (List UInt8)} {rs:List Rc} {r:Rc} (hu:usedR rs = u) (hs:standF (L.drop u) = some r) (hf:folF rs r):scanF (f + 1) L rs = scanF f L (rs ++ [r]):=by
 show (match standF (L.drop (usedR rs)) with | some r => if folF rs r then scanF f L (rs ++ [r]) else rs | none => rs) = _;rw [hu,hs];exact if_pos hf
theorem scan_stop {f u:Nat} {L:List (List UInt8)} {rs:List Rc} (hu:usedR rs = u) (hs:standF (L.drop u) = none):scanF (f + 1) L rs = rs:=by
 show (match standF (L.drop (usedR rs)) with | some r => if folF rs r then scanF f L (rs ++ [r]) else rs | none => rs) = _;rw [hu,hs]
theorem al_u0:usedR [] = 0:=rfl
theorem al_u1:usedR [alR0] = 1:=by unfold usedR;simp [al_cost]
theorem al_u2:usedR [alR0,alR1] = 2:=by unfold usedR;simp [al_cost]
theorem al_u3:usedR [alR0,alR1,alR2] = 3:=by unfold usedR;simp [al_cost]
theorem area_len (d:DskV) (f n:Nat):areaF (secL d f n) = scanF (n + 1) (secL d f n) []:=by unfold areaF;rw [secL_len]
theorem al_zA:areaA alD0 = []:=(area_len alD0 0 19).trans (scan_stop al_u0 (by kernel_rfl))
theorem al_zB:areaB alD0 = []:=(area_len alD0 19 19).trans (scan_stop al_u0 (by kernel_rfl))
theorem al_new0:newR alD0 = []:=by unfold newR secondD;rw [al_zA,al_zB];rfl
theorem al_A3:areaA alD3 = [alR0,alR1,alR2]:=by
 refine (area_len alD3 0 19).trans ?_;refine (scan_step (r:=alR0) al_u0 (by kernel_rfl) ⟨rfl,by decide⟩).trans ?_;refine (scan_step (r:=alR1) al_u1 (by kernel_rfl) ⟨rfl,rfl,Nat.le_refl _⟩).trans ?_;refine (scan_step (r:=alR2) al_u2 (by kernel_rfl) ⟨rfl,rfl,Nat.le_refl _⟩).trans ?_;exact scan_stop al_u3 (by kernel_rfl)
theorem al_B3:areaB alD3 = []:=(area_len alD3 19 19).trans (scan_stop al_u0 (by kernel_rfl))
theorem al_new3:newR alD3 = [alR0,alR1,alR2]:=by unfold newR secondD;rw [al_A3,al_B3];rfl
theorem al_sec0:secondD alD0 = false:=by unfold secondD;rw [al_zA,al_zB];rfl
theorem al_t0:fmtT alD0 = 0:=by unfold fmtT topF;rw [al_new0];kernel_rfl
theorem al_t3:fmtT alD3 = 1:=by unfold fmtT topF;rw [al_new3];kernel_rfl
structure VopP (W:World) (db:Nat) (nu:Nat) (s:VotS) (d:DskV) (v:LogV) (M:DskM) (w:World) (q:Ending) (w':World):Prop where
 x:∃ vb lb V M' L',q = .returned (.tuple #[.pointer (some ⟨vb,0,none⟩),.nilIface])∧M'.d = d∧L'.v = v∧M'.m + M'.d.C.length≤M.m + M.d.C.length + 600∧Hold W db lb vb V M' L' w'∧V.s = s∧V.nu = nu∧(∀ y ∈ M'.own db,y ∈ M.own db ∨ w.heap.size≤y)∧(∀ y ∈ L'.own lb,w.heap.size≤y)∧w.heap.size≤vb
 g:GrX (M.own db) w w'
set_option maxRecDepth 100000 in
set_option maxHeartbeats 3200000 in
theorem vformat_of {G:List Nat} {E:Nat→Addr} {W:World} (w:World) (hE:EAt G E W) (gW:Gr W w) (i0:4 ∈ G) (nu:Nat) (hnu:nu < 7) {db:Nat} {M:DskM} (hD:DskAt w db M) (hMW:∀ b ∈ M.own db,W.heap.size≤b)
 (hf:∀ w1 a c,Gr w w1→DskAt w1 db M→BytesAt w1 a (snapB vot0)→(a = none→c = 0)→(∀ x,a = some x→x.block < w1.heap.size∧x.block ∉ M.own db)→Calls Tryz.prog 35 #[.pointer (some ⟨db,0,none⟩),.slice a (snapB vot0).length c] w1 (FmtP W E db (snapB vot0) M w1)) :
 Calls Tryz.prog 12 #[.pointer (some ⟨db,0,none⟩),.int .i64 nu] w (VopP W db nu vot0 (putD (claimD M.d (fmtT M.d + 1)) (firstD M.d (fmtS M.d)) (frR (fmtR M.d (snapB vot0)))).flush (fmtL M.d (snapB vot0)) M w):=by
 obtain ⟨P,hP⟩:∃ P,P = VopP W db nu vot0 (putD (claimD M.d (fmtT M.d + 1)) (firstD M.d (fmtS M.d)) (frR (fmtR M.d (snapB vot0)))).flush (fmtL M.d (snapB vot0)) M w:=⟨_,rfl⟩
 rw [← hP];replace hP:=Lib.hid hP;have hg:=goodn_any nu w;rw [decide_eq_true (by omega)] at hg;have hsb:=fun w1 (g:Gr w w1) => sbytes_yes (K:=Any) w1 ((hE.gr gW).gr g) i0 vot0 vot0_ok none 0 [] rfl (LedM.nil _ _ _)
 obtain ⟨bl,hbl⟩:∃ bl,bl = (snapB vot0).length:=⟨_,rfl⟩
 rw [← hbl] at hsb hf;replace hsb:∀ w1,Gr w w1→Calls Tryz.prog 34 #[.agg #[.int .i64 0,.int .i64 0,.int .i64 0,.int .i64 0,.slice none 0 0,.int .i64 0]] w1 fun r w' => ∃ a c,r = .returned (.tuple #[.slice a bl c,.nilIface])∧Own w1 w' a c (snapB vot0):=hsb
 replace hsb:=Lib.hid hsb;replace hf:=Lib.hid hf;replace hg:=Lib.hid hg;replace hbl:=Lib.hid hbl;replace hE:=Lib.hid hE;go_enter Tryz.func12,Tryz.ntmps12;go_wp2_with fail;refine hg.out.mono ?_;rintro q w0 ⟨rfl,hw0⟩;rw [← hw0];clear hw0;go_wp2_with fail;refine (hsb.out _ (Gr.refl w)).mono ?_;rintro q w1 ⟨a1,c1,rfl,ho1⟩;have g1:=ho1.2.2.2.2;have hD1:=hD.gr g1;have hfm:=hf.out w1 a1 c1 g1 hD1 ho1.2.1 ho1.2.2.1 (fun x hx => ⟨ho1.lt hx,fun hm => by have:=hD.lt _ hm;have:=ho1.2.2.2.1 x hx;omega⟩);replace ho1:=Lib.hid ho1;replace hfm:=Lib.hid hfm;go_wp2_with fail;refine hfm.out.mono ?_;rintro q w2 hq;obtain ⟨lb,M2,L2,rfl,hd2,hl2,hm2,hD2,hL2,ho2,ho3⟩:=hq.x;have g2:=hq.g;have gf:GrX (M.own db) w w2:=(g1.x _).trans g2;have gW2:Gr W w2:=GrX.all gW gf hMW;have hown:∀ b ∈ M2.own db ++ L2.own lb,b < w2.heap.size:=fun b hb => by
  rcases List.mem_append.1 hb with hb | hb
  ·exact hD2.lt b hb
  ·exact hL2.lt b hb
 have hW:=gW.size;have z2:=gf.size;replace hq:=Lib.hid hq;replace hd2:=Lib.hid hd2;replace hl2:=Lib.hid hl2;replace hm2:=Lib.hid hm2;replace hD2:=Lib.hid hD2;replace hL2:=Lib.hid hL2;replace ho2:=Lib.hid ho2;replace ho3:=Lib.hid ho3;replace hown:=Lib.hid hown;go_wp2_with fail;rw [hP.out];refine ⟨⟨w2.heap.size,lb,⟨vot0,none,0,[],nu⟩,M2,L2,rfl,hd2.out,hl2.out,hm2.out,⟨hD2.out.gr ((Gr.refl w2).alloc _),fun b hb => ?_,hL2.out.gr ((Gr.refl w2).alloc _),⟨Blk.new w2 _ _,rfl,LedM.nil _ _ _,fun _ => rfl,Nat.le_refl _,vot0_ok,gW2.size,fun hm => ?_⟩,gW2.alloc _⟩,rfl,rfl,fun y hy => ?_,fun y hy => ?_,gf.size⟩,gf.gr ((Gr.refl w2).alloc _)⟩
 ·rcases ho2.out b hb with h | h
  ·exact hMW b h
  ·have:=g1.size;omega
 ·have:=hown.out _ hm;omega
 ·rcases ho2.out y hy with h | h
  ·exact .inl h
  ·right;have:=g1.size;omega
 ·have:=ho3.out y hy;have:=g1.size;omega
inductive RecS:VotS→List UInt8→VotS→Prop
 | p (s:VotS) (r m:Nat):r≤1099511627776→m≤1099511627776→RecS s (vrB [1,r,m] none) {s with pr:=r,pn:=m}
 | a (s:VotS) (r m k:Nat) (t:List Ent):r≤1099511627776→m≤1099511627776→k≤s.l.length→ledF t = true→ledF (s.l.take k ++ t) = true→RecS s (vrB [2,r,m,k] (some t)) {s with pr:=r,pn:=m,ar:=r,an:=m,l:=s.l.take k ++ t}
 | c (s:VotS) (n:Nat):n≤1099511627776→RecS s (vrB [3,n] none) {s with cl:=n}
theorem RecS.ok {s s':VotS} {b:List UInt8} (h:RecS s b s') (hs:s.ok):s'.ok:=by
 obtain ⟨⟨h1,h2,h3,h4,h5⟩,h6⟩:=hs;cases h with
 | p r m hr hm => exact ⟨⟨hr,hm,h3,h4,h5⟩,h6⟩
 | a r m k t hr hm hk ht hf => exact ⟨⟨hr,hm,hr,hm,h5⟩,hf⟩
 | c n hn => exact ⟨⟨h1,h2,h3,h4,hn⟩,h6⟩
def Replay:VotS→List (List UInt8)→VotS→Prop
 | s,[],s' => s = s'
 | s,b :: l,s' => ∃ s1,RecS s b s1∧Replay s1 l s'
theorem done_rec {G:List Nat} {E:Nat→Addr} {W:World} (w:World) (hE:EAt G E W) (gW:Gr W w) (i0:4 ∈ G) (a:Option Addr) (c:Nat) {s s':VotS} {b:List UInt8} (la:Option Addr) (lc:Nat) (L:List EntM) (hL:Ents L = s.l) (hM:LedM Any w la L) (hlc:s.l.length≤lc) (hln:la = none→lc = 0) (hs:s.ok) (hR:RecS s b s') (hS:BytesAt w a b) (hcn:a = none→c = 0) :
 Calls Tryz.prog 45 #[.agg (stC s la s.l.length lc),.slice a b.length c] w (DonP s' ⟨s,la,lc,L,0⟩ w):=by
 cases hR with
 | p r m hr hm =>
  refine (done_p w a c s la s.l.length lc r m hr hm hS hcn).mono ?_;rintro e w' ⟨rfl,g⟩;exact ⟨la,lc,L,rfl,hL,.inr ⟨rfl,rfl⟩,hln,hlc,g⟩
 | a r m k t hr hm hk ht hf =>
  refine (done_a w hE gW i0 a c s la lc L hL hM hlc (ledF_iff.1 hs.2).1 r m k t hr hm hk ht hS hcn).mono ?_;rintro e w' ⟨a',c',L',rfl,h1,h2,h3,h4,-,g⟩;exact ⟨a',c',L',rfl,h1,.inl h2,h3,h4,g⟩
 | c n hn =>
  refine (done_c w a c s la s.l.length lc n hn hS hcn).mono ?_;rintro e w' ⟨rfl,g⟩;exact ⟨la,lc,L,rfl,hL,.inr ⟨rfl,rfl⟩,hln,hlc,g⟩
theorem it_get {w:World} {a:Option Addr} {l:List Itm} (h:RecsAt 1 itC w a l) {k:Nat} {v:Itm} (hv:l[k]? = some v):∃ b off,a = some ⟨b,off,none⟩∧b < w.heap.size∧w.cell? ⟨b,off + k,none⟩ = some (.slice v.a v.b.length v.c):=by
 obtain ⟨b,off,h1,hb,h2⟩:=h k v hv;refine ⟨b,off,h1,hb,?_⟩;have:=h2 0 (.slice v.a v.b.length v.c) rfl
 rwa [Nat.mul_one,Nat.add_zero] at this
set_option maxRecDepth 100000 in
set_option maxHeartbeats 6400000 in
theorem vopen_of {G:List Nat} {E:Nat→Addr} {W:World} (w:World) (hE:EAt G E W) (gW:Gr W w) (i0:4 ∈ G) (nu:Nat) (hnu:nu < 7) {db:Nat} {M:DskM} (hMW:∀ b ∈ M.own db,W.heap.size≤b)
 (ho:Calls Tryz.prog 43 #[.pointer (some ⟨db,0,none⟩)] w (OpnP W E db M w)) {s0 sF:VotS} {recs:List (List UInt8)} (hs0:s0.ok) (hrs:(newR M.d).map (·.d) = snapB s0 :: recs) (hrp:Replay s0 recs sF) (hmx:recs.length≤1000) :
 Calls Tryz.prog 20 #[.pointer (some ⟨db,0,none⟩),.int .i64 nu] w (VopP W db nu sF (claimD M.d (fmtT M.d + 1)) (opnL M.d) M w):=by
 obtain ⟨P,hP⟩:∃ P,P = VopP W db nu sF (claimD M.d (fmtT M.d + 1)) (opnL M.d) M w:=⟨_,rfl⟩
 rw [← hP];replace hP:=Lib.hid hP;have hg:=goodn_any nu w;rw [decide_eq_true (by omega)] at hg;replace hg:=Lib.hid hg;replace ho:=Lib.hid ho;replace hE:=Lib.hid hE;replace hrs:=Lib.hid hrs;replace hrp:=Lib.hid hrp;replace hs0:=Lib.hid hs0;go_enter Tryz.func20,Tryz.ntmps20;go_wp2_with fail;refine hg.out.mono ?_;rintro q w0 ⟨rfl,hw0⟩;rw [← hw0];clear hw0;go_wp2_with fail;refine ho.out.mono ?_;rintro q w3 hq;obtain ⟨lb,M3,L3,it,I,pb,po,rfl,hd3,hl3,hm3,hD3,hL3,ho2,ho3,hIb,-,hIx,hIr,hpb,-⟩:=hq.x;have gf:GrX (M.own db) w w3:=hq.g;have gW3:Gr W w3:=GrX.all gW gf hMW;have hown:∀ b ∈ M3.own db ++ L3.own lb,b < w3.heap.size:=fun b hb => by
  rcases List.mem_append.1 hb with hb | hb
  ·exact hD3.lt b hb
  ·exact hL3.lt b hb
 have hW:=gW.size;have z3:=gf.size;rw [hrs.out,List.map_cons] at hIb;injection hIb with hb0 hbI
 have hix:=hIx it List.mem_cons_self;rw [hb0] at hix;rw [hb0];have hin:I.length = recs.length:=by rw [← hbI,List.length_map]
 have hld:=load_yes w3 hE.out gW3 i0 it.a it.c s0 hs0.out hix.2.1 hix.2.2.1;obtain ⟨n,hn⟩:∃ n,n = I.length:=⟨_,rfl⟩
 obtain ⟨sl,hsl⟩:∃ sl,sl = (snapB s0).length:=⟨_,rfl⟩
 obtain ⟨ll,hll⟩:∃ ll,ll = s0.l.length:=⟨_,rfl⟩
 rw [← hn,← hsl];rw [← hsl,← hll] at hld;have hnm:n≤1000:=by omega
 replace hq:=Lib.hid hq;replace hd3:=Lib.hid hd3;replace hl3:=Lib.hid hl3;replace hm3:=Lib.hid hm3;replace hD3:=Lib.hid hD3;replace hL3:=Lib.hid hL3;replace ho2:=Lib.hid ho2;replace ho3:=Lib.hid ho3;replace hown:=Lib.hid hown;replace hIx:=Lib.hid hIx;replace hIr:=Lib.hid hIr;replace hix:=Lib.hid hix;replace hbI:=Lib.hid hbI;replace hb0:=Lib.hid hb0;replace hin:=Lib.hid hin;replace hld:=Lib.hid hld;replace hn:=Lib.hid hn;replace hsl:=Lib.hid hsl;replace hll:=Lib.hid hll;go_wp2_with fail;refine hld.out.mono ?_;rintro q w4 ⟨a4,c4,L4,rfl,hE4,hM4,hn4,hc4,-,g4⟩;obtain ⟨sb,hsb⟩:∃ sb,sb = w4.heap.size:=⟨_,rfl⟩
 obtain ⟨w5,hw5⟩:∃ w5,w5 = w4.alloc (.cells #[.int .i64 s0.pr,.int .i64 s0.pn,.int .i64 s0.ar,.int .i64 s0.an,.slice a4 ll c4,.int .i64 s0.cl] 94):=⟨_,rfl⟩
 have g45:Gr w4 w5:=by rw [hw5];exact (Gr.refl w4).alloc _
 have hB1:Blk w5 sb (stC s0 a4 s0.l.length c4) 94:=by rw [hw5,hsb,← hll.out];exact Blk.new _ _ _
 have zs4:=g4.size;have hM5:LedM (fun x => w3.heap.size≤x∧x ≠ sb) w5 a4 L4:=(hM4.mono (K':=fun x => w3.heap.size≤x∧x ≠ sb) (fun x hx hk => ⟨hk,by omega⟩)).gr g45;have g35:Gr w3 w5:=g4.trans g45;have zsb:w3.heap.size≤sb:=by omega
 replace hE4:=Lib.hid hE4;replace hM5:=Lib.hid hM5;replace hB1:=Lib.hid hB1;replace hw5:=Lib.hid hw5;replace hsb:=Lib.hid hsb;clear hM4;go_upto_region 7 with fail
 rw [← hw5.out,← hsb.out];go_wp2_with fail;go_loopw [35,11] (fun iv okv wr => ∃ (k:Nat) (s:VotS) (a:Option Addr) (c:Nat) (L:List EntM),k≤n∧iv = .int .i64 k∧okv = .bool true∧Hid (Blk wr sb (stC s a s.l.length c) 94∧Ents L = s.l∧LedM (fun x => w3.heap.size≤x∧x ≠ sb) wr a L∧(a = none→c = 0)∧s.l.length≤c∧s.ok∧Replay s (recs.drop k) sF)∧Gr w3 wr) (fun iv _ _ => n - (intOf iv).toNat);case atStart => exact ⟨0,s0,a4,c4,L4,Nat.zero_le _,rfl,rfl,Lib.hid ⟨hB1.out,hE4.out,hM5.out,hn4,by rw [← hll.out];exact hc4,hs0.out,by rw [List.drop_zero];exact hrp.out⟩,g35⟩
 case round =>
  obtain ⟨k,s,a,c,L,hk,rfl,rfl,hI,g3r⟩:=hrel;obtain ⟨hB,hEs,hM,hac,hlc,hsok,hrep⟩:=hI.out;clear hI;have hnI:n = I.length:=hn.out;by_cases hlt:k < n
  ·have hltd:decide ((k:Int) < n) = true:=decide_eq_true (by omega);have hlt2:(k:Int) < n:=by omega
   obtain ⟨x,hx⟩:=get_some I k (by rw [← hnI];exact hlt);obtain ⟨ib,io,hpe,hib,hcell⟩:=it_get (hIr.out.gr' g3r) hx;injection hpe with hpe
   injection hpe with e1 e2
   subst e1 e2;have hxo:=hIx.out x (List.mem_cons_of_mem _ (get_mem hx));have hrk:recs[k]? = some x.b:=by rw [← hbI.out,List.getElem?_map,hx];rfl
   obtain ⟨hk2,hk3⟩:=List.getElem?_eq_some_iff.1 hrk;rw [List.drop_eq_getElem_cons hk2,hk3] at hrep;obtain ⟨s1,hR1,hrep1⟩:=hrep;have hdn:=done_rec wr hE.out (gW3.trans g3r) i0 x.a x.c a c L hEs (hM.mono (fun _ _ _ => trivial)) hlc hac hsok hR1 (hxo.2.1.gr g3r) hxo.2.2.1;have hok1:=hR1.ok hsok;have d0:=hB.cell (i:=0) (v:=.int .i64 s.pr) rfl;have d1:=hB.cell (i:=1) (v:=.int .i64 s.pn) rfl;have d2:=hB.cell (i:=2) (v:=.int .i64 s.ar) rfl;have d3:=hB.cell (i:=3) (v:=.int .i64 s.an) rfl;have d4:=hB.cell (i:=4) (v:=.slice a s.l.length c) rfl;have d5:=hB.cell (i:=5) (v:=.int .i64 s.cl) rfl;have dz:=hB.lt;obtain ⟨sn,hsn⟩:∃ sn,sn = s.l.length:=⟨_,rfl⟩
   obtain ⟨xl,hxl⟩:∃ xl,xl = x.b.length:=⟨_,rfl⟩
   rw [← hsn,← hxl] at hdn;rw [← hsn] at d4;rw [← hxl] at hcell;obtain ⟨wo,hwo⟩:∃ wo:World,wo = wr:=⟨wr,rfl⟩
   replace hdn:Calls Tryz.prog 45 #[.agg #[.int .i64 s.pr,.int .i64 s.pn,.int .i64 s.ar,.int .i64 s.an,.slice a sn c,.int .i64 s.cl],.slice x.a xl x.c] wr (DonP s1 ⟨s,a,c,L,0⟩ wr):=hdn;replace hdn:=Lib.hid hdn;replace hB:=Lib.hid hB;replace hEs:=Lib.hid hEs;replace hM:=Lib.hid hM;replace hsok:=Lib.hid hsok;replace hR1:=Lib.hid hR1;replace hrep1:=Lib.hid hrep1;replace hok1:=Lib.hid hok1;replace hxo:=Lib.hid hxo;replace hx:=Lib.hid hx;replace hrk:=Lib.hid hrk;replace hsn:=Lib.hid hsn;replace hxl:=Lib.hid hxl;replace hnI:=Lib.hid hnI;replace hlc:=Lib.hid hlc;clear hk3 hk2;go_wp2_with fail;refine hdn.out.mono ?_;rintro q w6 ⟨a6,c6,L6,rfl,hE6,hM6,hac6,hlc6,g6⟩;have hB6:=hB.out.gr g6;have u0:=hB6.free 0;have u1:=hB6.free 1;have u2:=hB6.free 2;have u3:=hB6.free 3;have u4:=hB6.free 4;have u5:=hB6.free 5;have zb6:=hB6.lt;have v0:=hB6.cell (i:=0) (v:=.int .i64 s.pr) rfl;have v1:=hB6.cell (i:=1) (v:=.int .i64 s.pn) rfl;have v2:=hB6.cell (i:=2) (v:=.int .i64 s.ar) rfl;have v3:=hB6.cell (i:=3) (v:=.int .i64 s.an) rfl;have v4:=hB6.cell (i:=4) (v:=.slice a s.l.length c) rfl;have v5:=hB6.cell (i:=5) (v:=.int .i64 s.cl) rfl;obtain ⟨n6,hn6⟩:∃ n6,n6 = s1.l.length:=⟨_,rfl⟩
   rw [← hn6] at hlc6;have hB7:=((((((hB6.set 0 (.int .i64 s1.pr)).set 1 (.int .i64 s1.pn)).set 2 (.int .i64 s1.ar)).set 3 (.int .i64 s1.an)).set 4 (.slice a6 n6 c6)).set 5 (.int .i64 s1.cl))
   have gs:GrX [sb] w6 ((((((w6.setCell ⟨sb,0,none⟩ (.int .i64 s1.pr)).setCell ⟨sb,1,none⟩ (.int .i64 s1.pn)).setCell ⟨sb,2,none⟩ (.int .i64 s1.ar)).setCell ⟨sb,3,none⟩ (.int .i64 s1.an)).setCell ⟨sb,4,none⟩ (.slice a6 n6 c6)).setCell ⟨sb,5,none⟩ (.int .i64 s1.cl)):=(((((((GrX.refl [sb] w6).set (p:=⟨sb,0,none⟩) (.inl (by simp)) _).set (p:=⟨sb,1,none⟩) (.inl (by simp)) _).set (p:=⟨sb,2,none⟩) (.inl (by simp)) _).set (p:=⟨sb,3,none⟩) (.inl (by simp)) _).set (p:=⟨sb,4,none⟩) (.inl (by simp)) _).set (p:=⟨sb,5,none⟩) (.inl (by simp)) _)
   obtain ⟨w7,hw7⟩:∃ w7,w7 = (((((w6.setCell ⟨sb,0,none⟩ (.int .i64 s1.pr)).setCell ⟨sb,1,none⟩ (.int .i64 s1.pn)).setCell ⟨sb,2,none⟩ (.int .i64 s1.ar)).setCell ⟨sb,3,none⟩ (.int .i64 s1.an)).setCell ⟨sb,4,none⟩ (.slice a6 n6 c6)).setCell ⟨sb,5,none⟩ (.int .i64 s1.cl):=⟨_,rfl⟩
   rw [← hw7] at hB7 gs;have zwr:=g3r.size;have hM7:LedM (fun x => w3.heap.size≤x∧x ≠ sb) w7 a6 L6:=by
    rcases hM6 with hM6 | ⟨e1,e2⟩
    ·refine LedM.grx (hM6.mono fun x _ hx => ?_) gs (fun y hy hk => hk.2 (List.mem_singleton.1 hy));exact ⟨by omega,by omega⟩
    ·rw [e1,e2];exact (hM.out.gr g6).grx gs (fun y hy hk => hk.2 (List.mem_singleton.1 hy))
   have g37:Gr w3 w7:=GrX.all (g3r.trans g6) gs (fun y hy => by rw [List.mem_singleton.1 hy];exact zsb);have hfin:Blk w7 sb (stC s1 a6 s1.l.length c6) 94∧Ents L6 = s1.l∧LedM (fun x => w3.heap.size≤x∧x ≠ sb) w7 a6 L6∧(a6 = none→c6 = 0)∧s1.l.length≤c6∧s1.ok∧Replay s1 (recs.drop (k + 1)) sF:=⟨by rw [← hn6];exact hB7,hE6,hM7,hac6,by rw [← hn6];exact hlc6,hok1.out,hrep1.out⟩
   replace hfin:=Lib.hid hfin;replace hB6:=Lib.hid hB6;replace hE6:=Lib.hid hE6;replace hM6:=Lib.hid hM6;replace hM7:=Lib.hid hM7;replace hw7:=Lib.hid hw7;replace hB7:=Lib.hid hB7;replace gs:=Lib.hid gs;clear d0 d1 d2 d3 d4 d5 dz;rw [show (Value.agg (stC s1 a6 s1.l.length c6)) = .agg #[.int .i64 s1.pr,.int .i64 s1.pn,.int .i64 s1.ar,.int .i64 s1.an,.slice a6 n6 c6,.int .i64 s1.cl] from by rw [hn6]];replace hn6:=Lib.hid hn6;go_wp2_with fail;rw [← hw7.out];go_roundw;case rel => exact ⟨k + 1,s1,a6,c6,L6,by omega,by go_num,rfl,hfin,g37⟩
   case measure => simp [intOf];omega
  ·obtain rfl:k = n:=by omega
   have hltd:decide ((k:Int) < k) = false:=decide_eq_false (by omega);have hrd:recs.drop k = []:=List.drop_eq_nil_of_le (by have:=hin.out;have:=hn.out;omega);rw [hrd] at hrep;have hse:s = sF:=hrep;rw [hse] at hB hEs hlc hsok;have d0:=hB.cell (i:=0) (v:=.int .i64 sF.pr) rfl;have d1:=hB.cell (i:=1) (v:=.int .i64 sF.pn) rfl;have d2:=hB.cell (i:=2) (v:=.int .i64 sF.ar) rfl;have d3:=hB.cell (i:=3) (v:=.int .i64 sF.an) rfl;have d4:=hB.cell (i:=4) (v:=.slice a sF.l.length c) rfl;have d5:=hB.cell (i:=5) (v:=.int .i64 sF.cl) rfl;have dz:=hB.lt;have gWr:=gW3.trans g3r;have g3w:=g3r.size;have hfin:∀ wf,wf = wr.alloc (.cells (voC sF a sF.l.length c nu lb) 100)→VopP W db nu sF (claimD M.d (fmtT M.d + 1)) (opnL M.d) M w (.returned (.tuple #[.pointer (some ⟨wr.heap.size,0,none⟩),.nilIface])) wf:=fun wf hwf => by
    have gf':Gr wr wf:=by rw [hwf];exact (Gr.refl wr).alloc _
    have g3f:=g3r.trans gf';have q1:∀ b ∈ M3.own db,W.heap.size≤b:=fun b hb => by
     rcases ho2.out b hb with h | h
     ·exact hMW b h
     ·omega
    have q2:wr.heap.size ∉ M3.own db ++ L3.own lb:=fun hm => by have:=hown.out _ hm;omega
    have q3:LedM (fun x => W.heap.size≤x∧x ∉ wr.heap.size :: (M3.own db ++ L3.own lb)) wr a L:=hM.mono (fun x hx hk => ⟨by have:=gW3.size;omega,fun hm => by
     rcases List.mem_cons.1 hm with h | h
     ·omega
     ·have:=hown.out x h;omega⟩)
    exact ⟨⟨wr.heap.size,lb,⟨sF,a,c,L,nu⟩,M3,L3,rfl,hd3.out,hl3.out,hm3.out,⟨hD3.out.gr g3f,q1,hL3.out.gr g3f,⟨by rw [hwf];exact Blk.new wr _ _,hEs,q3.gr gf',hac,hlc,hsok,gWr.size,q2⟩,gWr.trans gf'⟩,rfl,rfl,ho2.out,ho3.out,by omega⟩,gf.gr g3f⟩
   obtain ⟨sn,hsn⟩:∃ sn,sn = sF.l.length:=⟨_,rfl⟩
   rw [← hsn] at d4 hfin;replace hfin:=Lib.hid hfin;replace hB:=Lib.hid hB;replace hEs:=Lib.hid hEs;replace hM:=Lib.hid hM;replace hsok:=Lib.hid hsok;replace hlc:=Lib.hid hlc;replace hsn:=Lib.hid hsn;replace hnI:=Lib.hid hnI;replace hrd:=Lib.hid hrd;clear hrep hse;go_wp2_with fail;rw [hP.out];exact hfin.out _ rfl
theorem al_app {d:DskV} {v:LogV} {b:List UInt8} {u:Nat} (sb:List UInt8) (hl:d.lost = false) (hb:b.length≤40) (hu:usedR v.rs = u) (hn:halfD d = 19) (hg:v.g < 128) (he:v.e < 128) (hi:v.rs.length < 128) (hu2:u≤18) :
 aocE d v sb b = 0∧wrtD d v sb b = (putD d (firstD d v.s + u) (frR ⟨v.g,v.e,v.rs.length,b⟩)).flush∧aocL d v sb b = ⟨v.s,v.g,v.e,v.rs ++ [⟨v.g,v.e,v.rs.length,b⟩]⟩:=by
 have h0:appE d v b = 0:=by
  unfold appE;rw [hl,if_neg (by decide),if_neg (by omega),if_pos];unfold fitsB;refine decide_eq_true ⟨?_,?_⟩
  ·unfold appR;rw [al_cost hg he hi hb,hu,hn];omega
  ·unfold appR;dsimp only;omega
 have h1:aocE d v sb b = 0:=by unfold aocE;rw [if_neg (by rw [h0];decide)];exact h0
 refine ⟨h1,?_,?_⟩
 ·unfold wrtD aocD;rw [if_pos h1,if_neg (by rw [h0];decide)];unfold appD syncD;rw [if_pos h0,putD_lost,hl,if_neg (by decide),hu];rfl
 ·unfold aocL;rw [if_neg (by rw [h0];decide)];unfold appL;rw [if_pos h0];rfl
abbrev alS1:VotS:=⟨1,0,0,0,[],0⟩
abbrev alS2:VotS:=⟨1,0,1,0,[ale],0⟩
abbrev alL1:LogV:=⟨false,1,1,[alR0]⟩
abbrev alL2:LogV:=⟨false,1,1,[alR0,alR1]⟩
abbrev alL3:LogV:=⟨false,1,1,[alR0,alR1,alR2]⟩
theorem al_fits:fitsB 0 (halfD alD0) (fmtR alD0 (snapB vot0)) = true:=by
 unfold fitsB fmtR;rw [al_new0,al_t0,al_b0];refine decide_eq_true ⟨?_,by decide⟩;rw [al_cost (by decide) (by decide) (by decide) (by decide)];decide
theorem al_d1:(putD (claimD (newD 40) (fmtT (newD 40) + 1)) (firstD (newD 40) (fmtS (newD 40))) (frR (fmtR (newD 40) (snapB vot0)))).flush = alD1:=by
 show (putD (claimD alD0 (fmtT alD0 + 1)) (firstD alD0 (fmtS alD0)) (frR (fmtR alD0 (snapB vot0)))).flush = alD1;unfold fmtR fmtS claimD;rw [al_new0,al_t0,al_b0,al_sec0,numB_small (by decide)];show (putD _ _ (frR alR0)).flush = _;rw [al_f0];rfl
theorem al_l1:fmtL (newD 40) (snapB vot0) = alL1:=by
 show fmtL alD0 (snapB vot0) = alL1;unfold fmtL fmtS fmtR;rw [al_new0,al_t0,al_b0,al_sec0];rfl
theorem al_d2:aocE alD1 alL1 (snapB vot0) alB1 = 0∧wrtD alD1 alL1 (snapB vot0) alB1 = alD2∧aocL alD1 alL1 (snapB vot0) alB1 = alL2:=by
 have h:=al_app (d:=alD1) (v:=alL1) (b:=alB1) (snapB vot0) rfl (by decide) al_u1 rfl (by decide) (by decide) (by decide) (by decide);refine ⟨h.1,h.2.1.trans ?_,h.2.2⟩;show (putD _ _ (frR alR1)).flush = _;rw [al_f1];rfl
theorem al_d3:aocE alD2 alL2 (snapB alS1) alB2 = 0∧wrtD alD2 alL2 (snapB alS1) alB2 = alD3∧aocL alD2 alL2 (snapB alS1) alB2 = alL3:=by
 have h:=al_app (d:=alD2) (v:=alL2) (b:=alB2) (snapB alS1) rfl (by decide) al_u2 rfl (by decide) (by decide) (by decide) (by decide);refine ⟨h.1,h.2.1.trans ?_,h.2.2⟩;show (putD _ _ (frR alR2)).flush = _;rw [al_f2];rfl
theorem al_crash:alD3.crash 0 (-1) = alD3:=rfl
theorem al_d4:aocE (claimD alD3 2) (opnL alD3) (snapB alS2) alB3 = 0:=by
 refine (al_app (d:=claimD alD3 2) (v:=opnL alD3) (b:=alB3) (u:=3) (snapB alS2) rfl (by decide) ?_ rfl ?_ ?_ ?_ (by decide)).1
 ·show usedR (newR alD3) = 3;rw [al_new3];exact al_u3
 ·show numF (newR alD3) < 128;rw [al_new3];decide
 ·show fmtT alD3 + 1 < 128;rw [al_t3];decide
 ·show (newR alD3).length < 128;rw [al_new3];decide
theorem al_replay:Replay vot0 [alB1,alB2] alS2:=by
 have h1:=RecS.p vot0 1 0 (by decide) (by decide);rw [al_b1] at h1;have h2:=RecS.a alS1 1 0 0 [ale] (by decide) (by decide) (by decide) (by decide) (by decide);rw [al_b2] at h2;exact ⟨_,h1,_,h2,rfl⟩
theorem bal_eql (a b c d:Int) (w:World):(binOp .eql 23 (.agg #[.int .i64 a,.int .i64 b]) (.agg #[.int .i64 c,.int .i64 d])).run Tryz.prog w = .ok (.bool (decide (a = c∧b = d))) w:=by
 by_cases h1:a = c <;> by_cases h2:b = d <;> simp [go_sem,h1,h2]
def halfI (n:Int):Int:=if n < 1 then 0 else n / 2 + 1
theorem vhalf_any (n:Int) (w:World) (hn:n≤9223372036854775807) :
 Calls Tryz.prog 8 #[.int .i64 n] w fun e w' => e = .returned (.int .i64 (halfI n))∧w = w':=by
 unfold halfI;by_cases h:n < 1
 ·rw [if_pos h];go_enter Tryz.func8,Tryz.ntmps8;go_wp2;go_ret;exact ⟨rfl,rfl⟩
 ·rw [if_neg h];have e1:n.tdiv 2 = n / 2:=Int.tdiv_eq_ediv_of_nonneg (by omega);have e2:IntKind.i64.wrap (n / 2) = n / 2:=wraps_i64 _ (by omega) (by omega);have e3:IntKind.i64.wrap (n / 2 + 1) = n / 2 + 1:=wraps_i64 _ (by omega) (by omega);go_enter Tryz.func8,Tryz.ntmps8;go_wp2;go_ret;exact ⟨rfl,rfl⟩
theorem above_irr (a:Bal):aboveB a a = false:=by unfold aboveB;exact decide_eq_false (fun h => by omega)
theorem above_swap {a b:Bal} (h:¬ (a.r = b.r∧a.n = b.n)):aboveB b a = !aboveB a b:=by
 unfold aboveB;by_cases h1:b.r < a.r ∨ a.r = b.r∧b.n < a.n
 ·rw [decide_eq_true h1,decide_eq_false (fun h2 => by omega)];rfl
 ·rw [decide_eq_false h1,decide_eq_true (by omega)];rfl
set_option maxRecDepth 100000 in
set_option maxHeartbeats 12800000 in
theorem vn_A_lt (w:World) (hal:∀ w0,Gr w w0→Calls Tryz.prog 7 #[] w0 fun e w' => e = .returned (.bool true)∧Gr w0 w') (a:Bal) (n:Int) (hn1:-9223372036854775808≤n) (hn:n≤9223372036854775807) (hs:n < 1) :
 Calls Tryz.prog 3 #[.agg #[.int .i64 a.r,.int .i64 a.n],.agg #[.int .i64 a.r,.int .i64 a.n],.int .i64 n] w fun e w' => e = .returned (.bool true)∧Gr w w':=by
 obtain ⟨w0,hw0⟩:∃ w0,w0 = (w.alloc (.cells #[.int .i64 a.r,.int .i64 a.n] 23)).alloc (.cells #[.int .i64 a.r,.int .i64 a.n] 23):=⟨_,rfl⟩
 have g0:Gr w w0:=by rw [hw0];exact ((Gr.refl w).alloc _).alloc _
 have ha0:Blk w0 w.heap.size #[.int .i64 a.r,.int .i64 a.n] 23:=by rw [hw0];exact (Blk.new _ _ _).gr ((Gr.refl _).alloc _)
 have hb0:Blk w0 (w.heap.size + 1) #[.int .i64 a.r,.int .i64 a.n] 23:=by
  rw [hw0];have:=Blk.new (w.alloc (.cells #[.int .i64 a.r,.int .i64 a.n] 23)) #[.int .i64 a.r,.int .i64 a.n] 23
  rwa [World.size_alloc] at this
 have hal:=hal w0 g0;have hh:=fun w => vhalf_any n w hn
 obtain ⟨H,hH⟩:∃ H,H = halfI n:=⟨_,rfl⟩
 rw [← hH] at hh;have hc:n < 1∧H = 0 ∨ ¬ n < 1∧n - H < H∧H - 1≤n - (H - 1)∧1≤H∧H≤n / 2 + 1:=by
  by_cases h:n < 1
  ·exact .inl ⟨h,by rw [hH];unfold halfI;rw [if_pos h]⟩
  ·have:H = n / 2 + 1:=by rw [hH];unfold halfI;rw [if_neg h]
   exact .inr ⟨h,by omega,by omega,by omega,by omega⟩
 replace hal:=Lib.hid hal;replace hh:=Lib.hid hh;replace hH:=Lib.hid hH;have hab:=fun w => above_any a a w
 have hrab:=fun w => rabove_any a a w
 rw [above_irr] at hab hrab;replace hab:=Lib.hid hab;replace hrab:=Lib.hid hrab;rcases hc with ⟨c1,rfl⟩ | ⟨c1,-⟩
 ·have hd1:decide (n < 1) = true:=decide_eq_true c1;go_enter Tryz.func3,Tryz.ntmps3;go_wp2_with fail;rw [← hw0];refine hal.out.mono ?_;rintro e w1 ⟨rfl,g1⟩;have ha1:=ha0.gr g1;have hb1:=hb0.gr g1;have pa0:=ha1.cell (i:=0) (v:=.int .i64 a.r) rfl;have pa1:=ha1.cell (i:=1) (v:=.int .i64 a.n) rfl;have pb0:=hb1.cell (i:=0) (v:=.int .i64 a.r) rfl;have pb1:=hb1.cell (i:=1) (v:=.int .i64 a.n) rfl;have za:=ha1.lt;have zb:=hb1.lt;have g01:=g0.trans g1;replace ha1:=Lib.hid ha1;replace hb1:=Lib.hid hb1;replace hw0:=Lib.hid hw0;replace ha0:=Lib.hid ha0;replace hb0:=Lib.hid hb0;replace g0:=Lib.hid g0;replace g1:=Lib.hid g1;replace g01:=Lib.hid g01;go_wp2_with fail;refine (hh.out _).mono ?_;rintro e w2 ⟨rfl,hw2⟩;rw [← hw2];clear hw2;go_upto_region 4 with fail
  have q0:=GrW.cell pa0;have q1:=GrW.cell pa1;have q2:=GrW.cell pb0;have q3:=GrW.cell pb1;refine wp_region_grows (by kernel_rfl) (by kernel_rfl) ?_;repeat (any_goals (go_big_quiet_step (first | (with_reducible exact Calls.grows (hab.out _)) | (with_reducible exact Calls.grows (hrab.out _)) )))
  refine wpQuiet_nil ?_;intro wz hwq;have gz:=GrW.of hwq;clear hwq;go_wp2_with fail;go_ret;exact ⟨rfl,g01.out.trans gz⟩
 ·exact absurd hs c1
set_option maxRecDepth 100000 in
set_option maxHeartbeats 12800000 in
theorem vn_A_ge (w:World) (hal:∀ w0,Gr w w0→Calls Tryz.prog 7 #[] w0 fun e w' => e = .returned (.bool true)∧Gr w0 w') (a:Bal) (n:Int) (hn1:-9223372036854775808≤n) (hn:n≤9223372036854775807) (hs:¬ n < 1) :
 Calls Tryz.prog 3 #[.agg #[.int .i64 a.r,.int .i64 a.n],.agg #[.int .i64 a.r,.int .i64 a.n],.int .i64 n] w fun e w' => e = .returned (.bool true)∧Gr w w':=by
 obtain ⟨w0,hw0⟩:∃ w0,w0 = (w.alloc (.cells #[.int .i64 a.r,.int .i64 a.n] 23)).alloc (.cells #[.int .i64 a.r,.int .i64 a.n] 23):=⟨_,rfl⟩
 have g0:Gr w w0:=by rw [hw0];exact ((Gr.refl w).alloc _).alloc _
 have ha0:Blk w0 w.heap.size #[.int .i64 a.r,.int .i64 a.n] 23:=by rw [hw0];exact (Blk.new _ _ _).gr ((Gr.refl _).alloc _)
 have hb0:Blk w0 (w.heap.size + 1) #[.int .i64 a.r,.int .i64 a.n] 23:=by
  rw [hw0];have:=Blk.new (w.alloc (.cells #[.int .i64 a.r,.int .i64 a.n] 23)) #[.int .i64 a.r,.int .i64 a.n] 23
  rwa [World.size_alloc] at this
 have hal:=hal w0 g0;have hh:=fun w => vhalf_any n w hn
 obtain ⟨H,hH⟩:∃ H,H = halfI n:=⟨_,rfl⟩
 rw [← hH] at hh;have hc:n < 1∧H = 0 ∨ ¬ n < 1∧n - H < H∧H - 1≤n - (H - 1)∧1≤H∧H≤n / 2 + 1:=by
  by_cases h:n < 1
  ·exact .inl ⟨h,by rw [hH];unfold halfI;rw [if_pos h]⟩
  ·have:H = n / 2 + 1:=by rw [hH];unfold halfI;rw [if_neg h]
   exact .inr ⟨h,by omega,by omega,by omega,by omega⟩
 replace hal:=Lib.hid hal;replace hh:=Lib.hid hh;replace hH:=Lib.hid hH;have hab:=fun w => above_any a a w
 have hrab:=fun w => rabove_any a a w
 rw [above_irr] at hab hrab;replace hab:=Lib.hid hab;replace hrab:=Lib.hid hrab;rcases hc with ⟨c1,-⟩ | ⟨c1,c2,c3,c4,c5⟩
 ·exact absurd c1 hs
 ·have e1:IntKind.i64.wrap (n - H) = n - H:=wraps_i64 _ (by omega) (by omega);have e2:IntKind.i64.wrap (H - 1) = H - 1:=wraps_i64 _ (by omega) (by omega);have e3:IntKind.i64.wrap (n - (H - 1)) = n - (H - 1):=wraps_i64 _ (by omega) (by omega);have c6:1≤n:=by omega
  have f1:decide (n < 1) = false:=decide_eq_false c1;have f2:decide (1≤n) = true:=decide_eq_true c6;have f3:decide (n - H < H) = true:=decide_eq_true c2;have f4:decide (H - 1≤n - (H - 1)) = true:=decide_eq_true c3;go_enter Tryz.func3,Tryz.ntmps3;go_wp2_with fail;rw [← hw0];refine hal.out.mono ?_;rintro e w1 ⟨rfl,g1⟩;have ha1:=ha0.gr g1;have hb1:=hb0.gr g1;have pa0:=ha1.cell (i:=0) (v:=.int .i64 a.r) rfl;have pa1:=ha1.cell (i:=1) (v:=.int .i64 a.n) rfl;have pb0:=hb1.cell (i:=0) (v:=.int .i64 a.r) rfl;have pb1:=hb1.cell (i:=1) (v:=.int .i64 a.n) rfl;have za:=ha1.lt;have zb:=hb1.lt;have g01:=g0.trans g1;replace ha1:=Lib.hid ha1;replace hb1:=Lib.hid hb1;replace hw0:=Lib.hid hw0;replace ha0:=Lib.hid ha0;replace hb0:=Lib.hid hb0;replace g0:=Lib.hid g0;replace g1:=Lib.hid g1;replace g01:=Lib.hid g01;go_wp2_with fail;refine (hh.out _).mono ?_;rintro e w2 ⟨rfl,hw2⟩;rw [← hw2];clear hw2;go_upto_region 4 with fail
  have q0:=GrW.cell pa0;have q1:=GrW.cell pa1;have q2:=GrW.cell pb0;have q3:=GrW.cell pb1;refine wp_region_grows (by kernel_rfl) (by kernel_rfl) ?_;repeat (any_goals (go_big_quiet_step (first | (with_reducible exact Calls.grows (hab.out _)) | (with_reducible exact Calls.grows (hrab.out _)) )))
  refine wpQuiet_nil ?_;intro wz hwq;have gz:=GrW.of hwq;clear hwq;go_wp2_with fail;go_ret;exact ⟨rfl,g01.out.trans gz⟩
set_option maxRecDepth 100000 in
set_option maxHeartbeats 12800000 in
theorem vn_B_lt (w:World) (hal:∀ w0,Gr w w0→Calls Tryz.prog 7 #[] w0 fun e w' => e = .returned (.bool true)∧Gr w0 w') (a b:Bal) (hne:¬ a.r = b.r) (n:Int) (hn1:-9223372036854775808≤n) (hn:n≤9223372036854775807) (hs:n < 1) :
 Calls Tryz.prog 3 #[.agg #[.int .i64 a.r,.int .i64 a.n],.agg #[.int .i64 b.r,.int .i64 b.n],.int .i64 n] w fun e w' => e = .returned (.bool true)∧Gr w w':=by
 obtain ⟨w0,hw0⟩:∃ w0,w0 = (w.alloc (.cells #[.int .i64 a.r,.int .i64 a.n] 23)).alloc (.cells #[.int .i64 b.r,.int .i64 b.n] 23):=⟨_,rfl⟩
 have g0:Gr w w0:=by rw [hw0];exact ((Gr.refl w).alloc _).alloc _
 have ha0:Blk w0 w.heap.size #[.int .i64 a.r,.int .i64 a.n] 23:=by rw [hw0];exact (Blk.new _ _ _).gr ((Gr.refl _).alloc _)
 have hb0:Blk w0 (w.heap.size + 1) #[.int .i64 b.r,.int .i64 b.n] 23:=by
  rw [hw0];have:=Blk.new (w.alloc (.cells #[.int .i64 a.r,.int .i64 a.n] 23)) #[.int .i64 b.r,.int .i64 b.n] 23
  rwa [World.size_alloc] at this
 have hal:=hal w0 g0;have hh:=fun w => vhalf_any n w hn
 obtain ⟨H,hH⟩:∃ H,H = halfI n:=⟨_,rfl⟩
 rw [← hH] at hh;have hc:n < 1∧H = 0 ∨ ¬ n < 1∧n - H < H∧H - 1≤n - (H - 1)∧1≤H∧H≤n / 2 + 1:=by
  by_cases h:n < 1
  ·exact .inl ⟨h,by rw [hH];unfold halfI;rw [if_pos h]⟩
  ·have:H = n / 2 + 1:=by rw [hH];unfold halfI;rw [if_neg h]
   exact .inr ⟨h,by omega,by omega,by omega,by omega⟩
 replace hal:=Lib.hid hal;replace hh:=Lib.hid hh;replace hH:=Lib.hid hH;have hab:=fun w => above_any a b w
 have hrab:=fun w => rabove_any a b w
 have haa:=fun w => above_any a a w
 have hba:=fun w => above_any b a w
 rw [above_irr] at haa;rw [above_swap (a:=a) (b:=b) (by omega)] at hba;obtain ⟨v,hv⟩:∃ v,v = aboveB a b:=⟨_,rfl⟩
 rw [← hv] at hab hrab hba;replace hab:=Lib.hid hab;replace hrab:=Lib.hid hrab;replace haa:=Lib.hid haa;replace hba:=Lib.hid hba;replace hv:=Lib.hid hv;rcases hc with ⟨c1,rfl⟩ | ⟨c1,-⟩
 ·have hd1:decide (n < 1) = true:=decide_eq_true c1;cases v with
  | true =>
   go_enter Tryz.func3,Tryz.ntmps3;go_wp2_with fail;rw [← hw0];refine hal.out.mono ?_;rintro e w1 ⟨rfl,g1⟩;have ha1:=ha0.gr g1;have hb1:=hb0.gr g1;have pa0:=ha1.cell (i:=0) (v:=.int .i64 a.r) rfl;have pa1:=ha1.cell (i:=1) (v:=.int .i64 a.n) rfl;have pb0:=hb1.cell (i:=0) (v:=.int .i64 b.r) rfl;have pb1:=hb1.cell (i:=1) (v:=.int .i64 b.n) rfl;have za:=ha1.lt;have zb:=hb1.lt;have g01:=g0.trans g1;replace ha1:=Lib.hid ha1;replace hb1:=Lib.hid hb1;replace hw0:=Lib.hid hw0;replace ha0:=Lib.hid ha0;replace hb0:=Lib.hid hb0;replace g0:=Lib.hid g0;replace g1:=Lib.hid g1;replace g01:=Lib.hid g01;go_wp2_with fail;refine (hh.out _).mono ?_;rintro e w2 ⟨rfl,hw2⟩;rw [← hw2];clear hw2;go_upto_region 4 with fail
   have q0:=GrW.cell pa0;have q1:=GrW.cell pa1;have q2:=GrW.cell pb0;have q3:=GrW.cell pb1;refine wp_region_grows (by kernel_rfl) (by kernel_rfl) ?_;repeat (any_goals (go_big_quiet_step (first | (with_reducible exact Calls.grows (hab.out _)) | (with_reducible exact Calls.grows (haa.out _)) | (with_reducible exact Calls.grows (hba.out _)) | (with_reducible exact Calls.grows (hrab.out _)) )))
   refine wpQuiet_nil ?_;intro wz hwq;have gz:=GrW.of hwq;clear hwq;go_wp2_with fail;go_ret;exact ⟨rfl,g01.out.trans gz⟩
  | false =>
   go_enter Tryz.func3,Tryz.ntmps3;go_wp2_with fail;rw [← hw0];refine hal.out.mono ?_;rintro e w1 ⟨rfl,g1⟩;have ha1:=ha0.gr g1;have hb1:=hb0.gr g1;have pa0:=ha1.cell (i:=0) (v:=.int .i64 a.r) rfl;have pa1:=ha1.cell (i:=1) (v:=.int .i64 a.n) rfl;have pb0:=hb1.cell (i:=0) (v:=.int .i64 b.r) rfl;have pb1:=hb1.cell (i:=1) (v:=.int .i64 b.n) rfl;have za:=ha1.lt;have zb:=hb1.lt;have g01:=g0.trans g1;replace ha1:=Lib.hid ha1;replace hb1:=Lib.hid hb1;replace hw0:=Lib.hid hw0;replace ha0:=Lib.hid ha0;replace hb0:=Lib.hid hb0;replace g0:=Lib.hid g0;replace g1:=Lib.hid g1;replace g01:=Lib.hid g01;go_wp2_with fail;refine (hh.out _).mono ?_;rintro e w2 ⟨rfl,hw2⟩;rw [← hw2];clear hw2;go_upto_region 4 with fail
   have q0:=GrW.cell pa0;have q1:=GrW.cell pa1;have q2:=GrW.cell pb0;have q3:=GrW.cell pb1;refine wp_region_grows (by kernel_rfl) (by kernel_rfl) ?_;repeat (any_goals (go_big_quiet_step (first | (with_reducible exact Calls.grows (hab.out _)) | (with_reducible exact Calls.grows (haa.out _)) | (with_reducible exact Calls.grows (hba.out _)) | (with_reducible exact Calls.grows (hrab.out _)) )))
   refine wpQuiet_nil ?_;intro wz hwq;have gz:=GrW.of hwq;clear hwq;go_wp2_with fail;go_ret;exact ⟨rfl,g01.out.trans gz⟩
 ·exact absurd hs c1
set_option maxRecDepth 100000 in
set_option maxHeartbeats 12800000 in
theorem vn_B_ge (w:World) (hal:∀ w0,Gr w w0→Calls Tryz.prog 7 #[] w0 fun e w' => e = .returned (.bool true)∧Gr w0 w') (a b:Bal) (hne:¬ a.r = b.r) (n:Int) (hn1:-9223372036854775808≤n) (hn:n≤9223372036854775807) (hs:¬ n < 1) :
 Calls Tryz.prog 3 #[.agg #[.int .i64 a.r,.int .i64 a.n],.agg #[.int .i64 b.r,.int .i64 b.n],.int .i64 n] w fun e w' => e = .returned (.bool true)∧Gr w w':=by
 obtain ⟨w0,hw0⟩:∃ w0,w0 = (w.alloc (.cells #[.int .i64 a.r,.int .i64 a.n] 23)).alloc (.cells #[.int .i64 b.r,.int .i64 b.n] 23):=⟨_,rfl⟩
 have g0:Gr w w0:=by rw [hw0];exact ((Gr.refl w).alloc _).alloc _
 have ha0:Blk w0 w.heap.size #[.int .i64 a.r,.int .i64 a.n] 23:=by rw [hw0];exact (Blk.new _ _ _).gr ((Gr.refl _).alloc _)
 have hb0:Blk w0 (w.heap.size + 1) #[.int .i64 b.r,.int .i64 b.n] 23:=by
  rw [hw0];have:=Blk.new (w.alloc (.cells #[.int .i64 a.r,.int .i64 a.n] 23)) #[.int .i64 b.r,.int .i64 b.n] 23
  rwa [World.size_alloc] at this
 have hal:=hal w0 g0;have hh:=fun w => vhalf_any n w hn
 obtain ⟨H,hH⟩:∃ H,H = halfI n:=⟨_,rfl⟩
 rw [← hH] at hh;have hc:n < 1∧H = 0 ∨ ¬ n < 1∧n - H < H∧H - 1≤n - (H - 1)∧1≤H∧H≤n / 2 + 1:=by
  by_cases h:n < 1
  ·exact .inl ⟨h,by rw [hH];unfold halfI;rw [if_pos h]⟩
  ·have:H = n / 2 + 1:=by rw [hH];unfold halfI;rw [if_neg h]
   exact .inr ⟨h,by omega,by omega,by omega,by omega⟩
 replace hal:=Lib.hid hal;replace hh:=Lib.hid hh;replace hH:=Lib.hid hH;have hab:=fun w => above_any a b w
 have hrab:=fun w => rabove_any a b w
 have haa:=fun w => above_any a a w
 have hba:=fun w => above_any b a w
 rw [above_irr] at haa;rw [above_swap (a:=a) (b:=b) (by omega)] at hba;obtain ⟨v,hv⟩:∃ v,v = aboveB a b:=⟨_,rfl⟩
 rw [← hv] at hab hrab hba;replace hab:=Lib.hid hab;replace hrab:=Lib.hid hrab;replace haa:=Lib.hid haa;replace hba:=Lib.hid hba;replace hv:=Lib.hid hv;rcases hc with ⟨c1,-⟩ | ⟨c1,c2,c3,c4,c5⟩
 ·exact absurd c1 hs
 ·have e1:IntKind.i64.wrap (n - H) = n - H:=wraps_i64 _ (by omega) (by omega);have e2:IntKind.i64.wrap (H - 1) = H - 1:=wraps_i64 _ (by omega) (by omega);have e3:IntKind.i64.wrap (n - (H - 1)) = n - (H - 1):=wraps_i64 _ (by omega) (by omega);have c6:1≤n:=by omega
  have f1:decide (n < 1) = false:=decide_eq_false c1;have f2:decide (1≤n) = true:=decide_eq_true c6;have f3:decide (n - H < H) = true:=decide_eq_true c2;have f4:decide (H - 1≤n - (H - 1)) = true:=decide_eq_true c3;cases v with
  | true =>
   go_enter Tryz.func3,Tryz.ntmps3;go_wp2_with fail;rw [← hw0];refine hal.out.mono ?_;rintro e w1 ⟨rfl,g1⟩;have ha1:=ha0.gr g1;have hb1:=hb0.gr g1;have pa0:=ha1.cell (i:=0) (v:=.int .i64 a.r) rfl;have pa1:=ha1.cell (i:=1) (v:=.int .i64 a.n) rfl;have pb0:=hb1.cell (i:=0) (v:=.int .i64 b.r) rfl;have pb1:=hb1.cell (i:=1) (v:=.int .i64 b.n) rfl;have za:=ha1.lt;have zb:=hb1.lt;have g01:=g0.trans g1;replace ha1:=Lib.hid ha1;replace hb1:=Lib.hid hb1;replace hw0:=Lib.hid hw0;replace ha0:=Lib.hid ha0;replace hb0:=Lib.hid hb0;replace g0:=Lib.hid g0;replace g1:=Lib.hid g1;replace g01:=Lib.hid g01;go_wp2_with fail;refine (hh.out _).mono ?_;rintro e w2 ⟨rfl,hw2⟩;rw [← hw2];clear hw2;go_upto_region 4 with fail
   have q0:=GrW.cell pa0;have q1:=GrW.cell pa1;have q2:=GrW.cell pb0;have q3:=GrW.cell pb1;refine wp_region_grows (by kernel_rfl) (by kernel_rfl) ?_;repeat (any_goals (go_big_quiet_step (first | (with_reducible exact Calls.grows (hab.out _)) | (with_reducible exact Calls.grows (haa.out _)) | (with_reducible exact Calls.grows (hba.out _)) | (with_reducible exact Calls.grows (hrab.out _)) )))
   refine wpQuiet_nil ?_;intro wz hwq;have gz:=GrW.of hwq;clear hwq;go_wp2_with fail;go_ret;exact ⟨rfl,g01.out.trans gz⟩
  | false =>
   go_enter Tryz.func3,Tryz.ntmps3;go_wp2_with fail;rw [← hw0];refine hal.out.mono ?_;rintro e w1 ⟨rfl,g1⟩;have ha1:=ha0.gr g1;have hb1:=hb0.gr g1;have pa0:=ha1.cell (i:=0) (v:=.int .i64 a.r) rfl;have pa1:=ha1.cell (i:=1) (v:=.int .i64 a.n) rfl;have pb0:=hb1.cell (i:=0) (v:=.int .i64 b.r) rfl;have pb1:=hb1.cell (i:=1) (v:=.int .i64 b.n) rfl;have za:=ha1.lt;have zb:=hb1.lt;have g01:=g0.trans g1;replace ha1:=Lib.hid ha1;replace hb1:=Lib.hid hb1;replace hw0:=Lib.hid hw0;replace ha0:=Lib.hid ha0;replace hb0:=Lib.hid hb0;replace g0:=Lib.hid g0;replace g1:=Lib.hid g1;replace g01:=Lib.hid g01;go_wp2_with fail;refine (hh.out _).mono ?_;rintro e w2 ⟨rfl,hw2⟩;rw [← hw2];clear hw2;go_upto_region 4 with fail
   have q0:=GrW.cell pa0;have q1:=GrW.cell pa1;have q2:=GrW.cell pb0;have q3:=GrW.cell pb1;refine wp_region_grows (by kernel_rfl) (by kernel_rfl) ?_;repeat (any_goals (go_big_quiet_step (first | (with_reducible exact Calls.grows (hab.out _)) | (with_reducible exact Calls.grows (haa.out _)) | (with_reducible exact Calls.grows (hba.out _)) | (with_reducible exact Calls.grows (hrab.out _)) )))
   refine wpQuiet_nil ?_;intro wz hwq;have gz:=GrW.of hwq;clear hwq;go_wp2_with fail;go_ret;exact ⟨rfl,g01.out.trans gz⟩
end Go.Proofs.YteigofaccjaobaaGreatDoor
