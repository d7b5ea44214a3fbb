/- Voter.Accepted. Printed by gen_o18.py. -/
import Derived.Test.YteigofaccjaobaaGreatDoorKL17
namespace Go.Proofs.YteigofaccjaobaaGreatDoor
open Go.RowKit
set_option maxRecDepth 100000 in
set_option maxHeartbeats 6400000 in
theorem vaccepted_any {W:World} (w:World) {vb lb:Nat} {own:List Nat} {V:VotM} (h:VotAt W w vb lb own V) :
 Calls Tryz.prog 16 #[.pointer (some ⟨vb,0,none⟩)] w fun e w' => (∃ a c L,e = .returned (.tuple #[.agg #[.int .i64 V.s.ar,.int .i64 V.s.an],.slice a V.s.l.length c])∧Ents L = V.s.l∧LedM (fun b => w.heap.size≤b) w' a L∧(a = none→c = 0)∧V.s.l.length≤c)∧Gr w w':=by
 have hl64:=(ledF_iff.1 h.ok.2).1;have hVL:V.L.length = V.s.l.length:=by rw [← h.e,List.length_map]
 obtain ⟨wa,hwa⟩:∃ wa,wa = w.alloc (.cells #[.int .i64 0,.int .i64 0] 23):=⟨_,rfl⟩
 have ga:Gr w wa:=by rw [hwa];exact (Gr.refl w).alloc _
 have hrR:Blk wa w.heap.size #[.int .i64 0,.int .i64 0] 23:=by rw [hwa];exact Blk.new _ _ _
 have hVR:=h.gr ga;have d0:=hVR.b.cell (i:=0) (v:=.int .i64 V.s.pr) rfl;have d1:=hVR.b.cell (i:=1) (v:=.int .i64 V.s.pn) rfl;have d2:=hVR.b.cell (i:=2) (v:=.int .i64 V.s.ar) rfl;have d3:=hVR.b.cell (i:=3) (v:=.int .i64 V.s.an) rfl;have d4:=hVR.b.cell (i:=4) (v:=.slice V.a V.s.l.length V.c) rfl;have d5:=hVR.b.cell (i:=5) (v:=.int .i64 V.s.cl) rfl;have d6:=hVR.b.cell (i:=6) (v:=.int .i64 V.nu) rfl;have d7:=hVR.b.cell (i:=7) (v:=.pointer (some ⟨lb,0,none⟩)) rfl;have dz:=hVR.b.lt;have q0:=hrR.cell (i:=0) (v:=.int .i64 0) rfl;have q1:=hrR.cell (i:=1) (v:=.int .i64 0) rfl;have qf0:=hrR.free 0;have qf1:=hrR.free 1;have qz:=hrR.lt;replace h:=Lib.hid h;go_enter Tryz.func16,Tryz.ntmps16;go_upto_region 1 with fail
 rw [← hwa];replace hwa:=Lib.hid hwa;have hcp:=fun w' (g:Gr wa w') => vcopied_any V.a V.c V.L w' ((hVR.m.gr g).mono fun _ _ _ => trivial) (by rw [hVL];omega)
 rw [hVL] at hcp;replace hcp:=Lib.hid hcp;replace hVR:=Lib.hid hVR;go_region_held3 (fun w' => w'.cell? ⟨vb,2,none⟩ = some (.int .i64 V.s.ar)∧w'.cell? ⟨vb,3,none⟩ = some (.int .i64 V.s.an)∧w'.cell? ⟨vb,4,none⟩ = some (.slice V.a V.s.l.length V.c)) (simp (maxDischargeDepth:=8) [go_sem, *])
  (first
   | (go_at_call 39;(with_reducible refine (hcp.out _ ?hg).mono ?_);(case hg => repeat (first | exact Gr.refl _ | refine Gr.alloc ?_ _ | refine Gr.drew ?_));rintro e wX ⟨aX,cX,LX,rfl,hmX,hMX,hnX,hcX1,hcX2,gX,-,-⟩;rw [hVL] at hcX1 ⊢;have hVX:=hVR.out.gr (((Gr.refl wa).drew).trans gX);have x2:=hVX.b.cell (i:=2) (v:=.int .i64 V.s.ar) rfl;have x3:=hVX.b.cell (i:=3) (v:=.int .i64 V.s.an) rfl;have x4:=hVX.b.cell (i:=4) (v:=.slice V.a V.s.l.length V.c) rfl;have hrX:=hrR.gr (((Gr.refl wa).drew).trans gX);have y0:=hrX.cell (i:=0) (v:=.int .i64 0) rfl;have y1:=hrX.cell (i:=1) (v:=.int .i64 0) rfl;have yf0:=hrX.free 0;have yf1:=hrX.free 1;have yz:=hrX.lt;have vz:=hVX.b.lt;replace hVX:=Lib.hid hVX)
   | fail)
 have gRX:Gr wa wX:=((Gr.refl wa).drew).trans gX;have hrX:=hrR.gr gRX;have hrf:=(hrX.set 0 (.int .i64 V.s.ar)).set 1 (.int .i64 V.s.an);have gs:GrX [w.heap.size] wX ((wX.setCell ⟨w.heap.size,0,none⟩ (.int .i64 V.s.ar)).setCell ⟨w.heap.size,1,none⟩ (.int .i64 V.s.an)):=((GrX.refl [w.heap.size] wX).set (p:=⟨w.heap.size,0,none⟩) (.inl (by simp)) _).set (p:=⟨w.heap.size,1,none⟩) (.inl (by simp)) _;obtain ⟨wf,hwf⟩:∃ wf,wf = ((wX.setCell ⟨w.heap.size,0,none⟩ (.int .i64 V.s.ar)).setCell ⟨w.heap.size,1,none⟩ (.int .i64 V.s.an)):=⟨_,rfl⟩
 rw [← hwf] at hrf gs ⊢;have zR2:w.heap.size < wa.heap.size:=hrR.lt;have hEX:Ents LX = V.s.l:=hmX.trans hVR.out.e;have hMX2:LedM (fun b => w.heap.size≤b) wf aX LX:=(hMX.grx gs (fun y hy hk => by rw [List.mem_singleton.1 hy] at hk;simp only [World.size_drew] at hk;omega)).mono (fun b _ hk => by simp only [World.size_drew] at hk;omega);have hfin:Gr w wf:=GrX.all (ga.trans gRX) gs (fun x hx => by rw [List.mem_singleton.1 hx];exact Nat.le_refl _);replace hMX2:=Lib.hid hMX2;replace hrf:=Lib.hid hrf;clear gs hwf;go_wp2_with fail;refine bodyPost_ret (v:=.tuple #[.agg #[.int .i64 V.s.ar,.int .i64 V.s.an],.slice aX V.s.l.length cX]) ?_ rfl ⟨⟨aX,cX,LX,rfl,hEX,hMX2.out,hnX,hcX1⟩,hfin⟩;exact (res_cell (b:=w.heap.size) (t:=23) Tryz.results16 _ _ hrf.out rfl Tryz.underlying23 (by kernel_rfl)).trans rfl
def topC (s:VotS) (b:Bal):Int:=if b.r≤1099511627776 then max (max (s.pr:Int) s.cl) b.r else max (s.pr:Int) s.cl
set_option maxRecDepth 100000 in
set_option maxHeartbeats 12800000 in
theorem claim_full {G:List Nat} {E:Nat→Addr} {W:World} (w:World) (hE:EAt G E W) (i6:2 ∈ G) {db lb vb:Nat} {V:VotM} {M:DskM} {L:LogM} (h:Hold W db lb vb V M L w) (b:Bal) (ht:1099511627776≤topC V.s b) :
 Calls Tryz.prog 18 #[.pointer (some ⟨vb,0,none⟩),.agg #[.int .i64 b.r,.int .i64 b.n]] w fun e w' => e = .returned (.tuple #[.agg #[.int .i64 0,.int .i64 0],fullE E])∧Gr w w':=by
 obtain ⟨wa,hwa⟩:∃ wa,wa = w.alloc (.cells #[.int .i64 b.r,.int .i64 b.n] 23):=⟨_,rfl⟩
 obtain ⟨w0,hw0⟩:∃ w0,w0 = wa.alloc (.cells #[.int .i64 0,.int .i64 0] 23):=⟨_,rfl⟩
 have ga:Gr w wa:=by rw [hwa];exact (Gr.refl w).alloc _
 have gb:Gr wa w0:=by rw [hw0];exact (Gr.refl wa).alloc _
 have g0:=ga.trans gb;have hsa:wa.heap.size = w.heap.size + 1:=by rw [hwa];simp
 have hp0:Blk w0 w.heap.size #[.int .i64 b.r,.int .i64 b.n] 23:=Blk.gr (by rw [hwa];exact Blk.new _ _ _) gb;have hr0:Blk w0 (w.heap.size + 1) #[.int .i64 0,.int .i64 0] 23:=by rw [hw0,← hsa];exact Blk.new _ _ _
 have hg2:(2:Nat) < w.heap.size:=(hE.gr h.g).lt _ i6;have hg3:(2:Nat) ≠ w.heap.size + 1:=by omega
 have h0:=h.gr g0;have ef:=(hE.gr h0.g).c0 i6;have d0:=h0.v.b.cell (i:=0) (v:=.int .i64 V.s.pr) rfl;have d1:=h0.v.b.cell (i:=1) (v:=.int .i64 V.s.pn) rfl;have d2:=h0.v.b.cell (i:=2) (v:=.int .i64 V.s.ar) rfl;have d3:=h0.v.b.cell (i:=3) (v:=.int .i64 V.s.an) rfl;have d4:=h0.v.b.cell (i:=4) (v:=.slice V.a V.s.l.length V.c) rfl;have d5:=h0.v.b.cell (i:=5) (v:=.int .i64 V.s.cl) rfl;have d6:=h0.v.b.cell (i:=6) (v:=.int .i64 V.nu) rfl;have d7:=h0.v.b.cell (i:=7) (v:=.pointer (some ⟨lb,0,none⟩)) rfl;have dz:=h0.v.b.lt;have p0:=hp0.cell (i:=0) (v:=.int .i64 b.r) rfl;have p1:=hp0.cell (i:=1) (v:=.int .i64 b.n) rfl;have pz:=hp0.lt;have q0:=hr0.cell (i:=0) (v:=.int .i64 0) rfl;have q1:=hr0.cell (i:=1) (v:=.int .i64 0) rfl;have qf0:=hr0.free 0;have qf1:=hr0.free 1;have qz:=hr0.lt;replace h:=Lib.hid h;replace h0:=Lib.hid h0;replace hE:=Lib.hid hE;by_cases hb:b.r≤1099511627776
 ·have hb2:decide (b.r≤1099511627776) = true:=decide_eq_true hb;go_enter Tryz.func18,Tryz.ntmps18;go_upto_region 1 with fail
  have k0:=GrW.cell d0;have k5:=GrW.cell d5;rw [← hwa,← hw0];refine wp_region_grows (by kernel_rfl) (by kernel_rfl) ?_;repeat (any_goals (first | go_big_quiet_step (first | fail) | quiet_step (first | fail)))
  refine wpQuiet_nil ?_;intro wz hwq;have gz:=GrW.of hwq;clear hwq;obtain ⟨cz,fz,sz⟩:=gz.cells;try simp only [size_drewN] at cz fz sz
  try simp only [World.size_alloc] at cz fz sz
  try simp only [World.size_drew] at cz fz sz
  try simp only [World.size_setCell] at cz fz sz
  obtain ⟨t0,ht0⟩:∃ t0:Int,t0 = (if V.s.pr < V.s.cl then (V.s.cl:Int) else (V.s.pr:Int)):=⟨_,rfl⟩
  rw [← ht0];have pz0:=(hp0.gr gz).cell (i:=0) (v:=.int .i64 b.r) rfl;have pzz:=(hp0.gr gz).lt;have hrz:=hr0.gr gz;have y0:=hrz.cell (i:=0) (v:=.int .i64 0) rfl;have y1:=hrz.cell (i:=1) (v:=.int .i64 0) rfl;have yf0:=hrz.free 0;have yf1:=hrz.free 1;have yz:=hrz.lt;have efz:=(hE.out.gr (h0.out.g.trans gz)).c0 i6;have htt:¬ t0 < b.r→1099511627776≤t0:=fun hlt => by
   unfold topC at ht;rw [if_pos hb] at ht;rw [ht0];rw [ht0] at hlt;split <;> split at hlt <;> omega
  have htu:t0 < b.r→1099511627776≤b.r:=fun hlt => by
   unfold topC at ht;rw [if_pos hb] at ht;rw [ht0] at hlt;split at hlt <;> omega
  replace ht0:=Lib.hid ht0;replace ht:=Lib.hid ht;replace hrz:=Lib.hid hrz;by_cases hlt:t0 < b.r
  ·have ht2:=htu hlt;clear htt htu;go_wp2_with fail;replace hwa:=Lib.hid hwa;replace hw0:=Lib.hid hw0;go_region_held3 (fun w' => w'.cell? ⟨2,0,none⟩ = some (fullE E)) (simp (maxDischargeDepth:=8) [go_sem, *]) (fail);have hrf:=((hrz.out.set 0 (.int .i64 0)).set 1 (.int .i64 0)).drew;have gf:Gr w ((wz.setCell ⟨w.heap.size + 1,0,none⟩ (.int .i64 0)).setCell ⟨w.heap.size + 1,1,none⟩ (.int .i64 0)).drew:=((((g0.trans gz).setCell (Nat.le_succ _) _).setCell (Nat.le_succ _) _)).drew;go_wp2_with fail;refine bodyPost_ret (v:=.tuple #[.agg #[.int .i64 0,.int .i64 0],fullE E]) ?_ rfl ⟨rfl,gf⟩;exact (res_cell (b:=w.heap.size + 1) (t:=23) Tryz.results18 _ _ hrf rfl Tryz.underlying23 (by kernel_rfl)).trans rfl
  ·have ht2:=htt hlt;clear htt htu;go_wp2_with fail;replace hwa:=Lib.hid hwa;replace hw0:=Lib.hid hw0;go_region_held3 (fun w' => w'.cell? ⟨2,0,none⟩ = some (fullE E)) (simp (maxDischargeDepth:=8) [go_sem, *]) (fail);have hrf:=((hrz.out.set 0 (.int .i64 0)).set 1 (.int .i64 0)).drew;have gf:Gr w ((wz.setCell ⟨w.heap.size + 1,0,none⟩ (.int .i64 0)).setCell ⟨w.heap.size + 1,1,none⟩ (.int .i64 0)).drew:=((((g0.trans gz).setCell (Nat.le_succ _) _).setCell (Nat.le_succ _) _)).drew;go_wp2_with fail;refine bodyPost_ret (v:=.tuple #[.agg #[.int .i64 0,.int .i64 0],fullE E]) ?_ rfl ⟨rfl,gf⟩;exact (res_cell (b:=w.heap.size + 1) (t:=23) Tryz.results18 _ _ hrf rfl Tryz.underlying23 (by kernel_rfl)).trans rfl
 ·have hb2:decide (b.r≤1099511627776) = false:=decide_eq_false hb;go_enter Tryz.func18,Tryz.ntmps18;go_upto_region 1 with fail
  have k0:=GrW.cell d0;have k5:=GrW.cell d5;rw [← hwa,← hw0];refine wp_region_grows (by kernel_rfl) (by kernel_rfl) ?_;repeat (any_goals (first | go_big_quiet_step (first | fail) | quiet_step (first | fail)))
  refine wpQuiet_nil ?_;intro wz hwq;have gz:=GrW.of hwq;clear hwq;obtain ⟨cz,fz,sz⟩:=gz.cells;try simp only [size_drewN] at cz fz sz
  try simp only [World.size_alloc] at cz fz sz
  try simp only [World.size_drew] at cz fz sz
  try simp only [World.size_setCell] at cz fz sz
  obtain ⟨t0,ht0⟩:∃ t0:Int,t0 = (if V.s.pr < V.s.cl then (V.s.cl:Int) else (V.s.pr:Int)):=⟨_,rfl⟩
  rw [← ht0];have pz0:=(hp0.gr gz).cell (i:=0) (v:=.int .i64 b.r) rfl;have pzz:=(hp0.gr gz).lt;have hrz:=hr0.gr gz;have y0:=hrz.cell (i:=0) (v:=.int .i64 0) rfl;have y1:=hrz.cell (i:=1) (v:=.int .i64 0) rfl;have yf0:=hrz.free 0;have yf1:=hrz.free 1;have yz:=hrz.lt;have efz:=(hE.out.gr (h0.out.g.trans gz)).c0 i6;have htt:1099511627776≤t0:=by
   unfold topC at ht;rw [if_neg hb] at ht;rw [ht0];split <;> omega
  replace ht0:=Lib.hid ht0;replace ht:=Lib.hid ht;replace hrz:=Lib.hid hrz;go_wp2_with fail;replace hwa:=Lib.hid hwa;replace hw0:=Lib.hid hw0;go_region_held3 (fun w' => w'.cell? ⟨2,0,none⟩ = some (fullE E)) (simp (maxDischargeDepth:=8) [go_sem, *]) (fail);have hrf:=((hrz.out.set 0 (.int .i64 0)).set 1 (.int .i64 0)).drew;have gf:Gr w ((wz.setCell ⟨w.heap.size + 1,0,none⟩ (.int .i64 0)).setCell ⟨w.heap.size + 1,1,none⟩ (.int .i64 0)).drew:=((((g0.trans gz).setCell (Nat.le_succ _) _).setCell (Nat.le_succ _) _)).drew;go_wp2_with fail;refine bodyPost_ret (v:=.tuple #[.agg #[.int .i64 0,.int .i64 0],fullE E]) ?_ rfl ⟨rfl,gf⟩;exact (res_cell (b:=w.heap.size + 1) (t:=23) Tryz.results18 _ _ hrf rfl Tryz.underlying23 (by kernel_rfl)).trans rfl
theorem nats2 (w:World) (a b:Nat):RecsAt 1 natC (w.alloc (.cells #[.int .i64 a,.int .i64 b] 3)) (some ⟨w.heap.size,0,none⟩) [a,b]:=recs_alloc natC_len w [a,b] _ _ rfl
set_option maxRecDepth 100000 in
set_option maxHeartbeats 12800000 in
theorem claim_go {G:List Nat} {E:Nat→Addr} {W:World} (w:World) (hE:EAt G E W) (i0:4 ∈ G) (i4:0 ∈ G) (i5:1 ∈ G) (i3:5 ∈ G) (i6:2 ∈ G) {db lb vb:Nat} {V:VotM} {M:DskM} {L:LogM} (h:Hold W db lb vb V M L w) (hC:M.m + M.d.C.length≤880000) (h4:4≤M.d.n) (b:Bal) (T:Nat) (hT:topC V.s b = T) (hT2:T < 1099511627776) :
 Calls Tryz.prog 18 #[.pointer (some ⟨vb,0,none⟩),.agg #[.int .i64 b.r,.int .i64 b.n]] w fun e w' => ∃ M' L' V' own,M'.d = wrtD M.d L.v (snapB V.s) (vrB [3,T + 1] none)∧L'.v = aocL M.d L.v (snapB V.s) (vrB [3,T + 1] none)∧Hold W db lb vb V' M' L' w'∧own = M.own db ++ L.own lb∧(∀ b ∈ M'.own db ++ L'.own lb,b ∈ own ∨ w.heap.size≤b)∧M'.m + M'.d.C.length≤M.m + M.d.C.length + 3000∧GrX (vb :: own) w w'∧V'.nu = V.nu ∧
  ((aocE M.d L.v (snapB V.s) (vrB [3,T + 1] none) = 0∧V'.s = {V.s with cl:=T + 1}∧e = .returned (.tuple #[.agg #[.int .i64 ((T + 1:Nat):Int),.int .i64 V.nu],.nilIface]))
   ∨ (∃ g,aocE M.d L.v (snapB V.s) (vrB [3,T + 1] none) ≠ 0∧eV E (aocE M.d L.v (snapB V.s) (vrB [3,T + 1] none)) = errAt E g∧V'.s = V.s∧e = .returned (.tuple #[.agg #[.int .i64 0,.int .i64 0],errAt E g]))):=by
 obtain ⟨T1,hT1⟩:∃ T1,T1 = T + 1:=⟨_,rfl⟩
 rw [← hT1];obtain ⟨B,hB⟩:∃ B,B = vrB [3,T1] none:=⟨_,rfl⟩
 rw [← hB];replace hB:=Lib.hid hB;obtain ⟨bl,hbl⟩:∃ bl,bl = B.length:=⟨_,rfl⟩
 have hT140:T1≤1099511627776:=by omega
 replace hbl:=Lib.hid hbl;obtain ⟨wa,hwa⟩:∃ wa,wa = w.alloc (.cells #[.int .i64 b.r,.int .i64 b.n] 23):=⟨_,rfl⟩
 obtain ⟨w0,hw0⟩:∃ w0,w0 = wa.alloc (.cells #[.int .i64 0,.int .i64 0] 23):=⟨_,rfl⟩
 have ga:Gr w wa:=by rw [hwa];exact (Gr.refl w).alloc _
 have gb:Gr wa w0:=by rw [hw0];exact (Gr.refl wa).alloc _
 have g0:=ga.trans gb;have hsa:wa.heap.size = w.heap.size + 1:=by rw [hwa];simp
 have hp0:Blk w0 w.heap.size #[.int .i64 b.r,.int .i64 b.n] 23:=Blk.gr (by rw [hwa];exact Blk.new _ _ _) gb;have hr0:Blk w0 (w.heap.size + 1) #[.int .i64 0,.int .i64 0] 23:=by rw [hw0,← hsa];exact Blk.new _ _ _
 have h0:=h.gr g0;have d0:=h0.v.b.cell (i:=0) (v:=.int .i64 V.s.pr) rfl;have d1:=h0.v.b.cell (i:=1) (v:=.int .i64 V.s.pn) rfl;have d2:=h0.v.b.cell (i:=2) (v:=.int .i64 V.s.ar) rfl;have d3:=h0.v.b.cell (i:=3) (v:=.int .i64 V.s.an) rfl;have d4:=h0.v.b.cell (i:=4) (v:=.slice V.a V.s.l.length V.c) rfl;have d5:=h0.v.b.cell (i:=5) (v:=.int .i64 V.s.cl) rfl;have d6:=h0.v.b.cell (i:=6) (v:=.int .i64 V.nu) rfl;have d7:=h0.v.b.cell (i:=7) (v:=.pointer (some ⟨lb,0,none⟩)) rfl;have dz:=h0.v.b.lt;have p0:=hp0.cell (i:=0) (v:=.int .i64 b.r) rfl;have pz:=hp0.lt;replace h:=Lib.hid h;replace h0:=Lib.hid h0;replace hE:=Lib.hid hE;by_cases hb:b.r≤1099511627776
 ·have hb2:decide (b.r≤1099511627776) = true:=decide_eq_true hb;go_enter Tryz.func18,Tryz.ntmps18;go_upto_region 1 with fail
  have k0:=GrW.cell d0;have k5:=GrW.cell d5;rw [← hwa,← hw0];refine wp_region_grows (by kernel_rfl) (by kernel_rfl) ?_;repeat (any_goals (first | go_big_quiet_step (first | fail) | quiet_step (first | fail)))
  refine wpQuiet_nil ?_;intro wz hwq;have gz:=GrW.of hwq;clear hwq;obtain ⟨cz,fz,sz⟩:=gz.cells;try simp only [size_drewN] at cz fz sz
  try simp only [World.size_alloc] at cz fz sz
  try simp only [World.size_drew] at cz fz sz
  try simp only [World.size_setCell] at cz fz sz
  obtain ⟨t0,ht0⟩:∃ t0:Int,t0 = (if V.s.pr < V.s.cl then (V.s.cl:Int) else (V.s.pr:Int)):=⟨_,rfl⟩
  rw [← ht0];have pz0:=(hp0.gr gz).cell (i:=0) (v:=.int .i64 b.r) rfl;have pzz:=(hp0.gr gz).lt;have hrz:=hr0.gr gz;have h2:=h0.out.gr gz;clear d0 d1 d2 d3 d4 d5 d6 d7 dz k0 k5;have d0:=h2.v.b.cell (i:=0) (v:=.int .i64 V.s.pr) rfl;have d1:=h2.v.b.cell (i:=1) (v:=.int .i64 V.s.pn) rfl;have d2:=h2.v.b.cell (i:=2) (v:=.int .i64 V.s.ar) rfl;have d3:=h2.v.b.cell (i:=3) (v:=.int .i64 V.s.an) rfl;have d4:=h2.v.b.cell (i:=4) (v:=.slice V.a V.s.l.length V.c) rfl;have d5:=h2.v.b.cell (i:=5) (v:=.int .i64 V.s.cl) rfl;have d6:=h2.v.b.cell (i:=6) (v:=.int .i64 V.nu) rfl;have d7:=h2.v.b.cell (i:=7) (v:=.pointer (some ⟨lb,0,none⟩)) rfl;have dz:=h2.v.b.lt;replace h2:=Lib.hid h2;replace hrz:=Lib.hid hrz;by_cases hlt:t0 < b.r
  ·have hTb:b.r = T:=by
    unfold topC at hT;rw [if_pos hb] at hT;rw [ht0] at hlt;split at hlt <;> omega
   have hn40:¬ (1099511627776:Int)≤b.r:=by omega
   have hw64:IntKind.i64.wrap (b.r + 1) = (T1:Int):=by rw [wraps_i64 _ (by omega) (by omega)];omega
   replace ht0:=Lib.hid ht0;replace hT2:=Lib.hid hT2;replace hT:=Lib.hid hT;replace hT1:=Lib.hid hT1;replace hTb:=Lib.hid hTb;replace hC:=Lib.hid hC;replace h4:=Lib.hid h4;obtain ⟨wn,hwn⟩:∃ wn,wn = wz.alloc (.cells #[.int .i64 3,.int .i64 T1] 3):=⟨_,rfl⟩
   have gn:Gr wz wn:=by rw [hwn];exact (Gr.refl wz).alloc _
   have hrc:=record_no wn (some ⟨wz.heap.size,0,none⟩) 2 [3,T1] (by rw [hwn];exact nats2 wz 3 T1) (by simp;omega) (by simp);have gw2:Gr w wz:=g0.trans gz;rw [← hB.out,← hbl.out] at hrc;replace hrc:Calls Tryz.prog 37 #[.slice (some ⟨wz.heap.size,0,none⟩) 2 2,.slice none 0 0,.bool false] wn fun q w' => ∃ a c,q = .returned (.tuple #[.slice a bl c,.nilIface])∧Own wn w' a c B:=hrc
   replace hrc:=Lib.hid hrc;go_wp2_with fail;rw [← hwn];refine hrc.out.mono ?_;rintro q w3 ⟨a3,c3,rfl,ho3⟩;have h3:=(h2.out.gr gn).gr ho3.2.2.2.2;have hb3:=h2.out.own_byt gn ho3;have gw3:Gr w w3:=(gw2.trans gn).trans ho3.2.2.2.2;have hvok:=h3.v.ok;have hve:=h3.v.e;have hvn:=h3.v.n;have hvc:=h3.v.c;have hwr:=write_any w3 hE.out i0 i4 i5 i3 i6 h3 (by have:=hC.out;omega) h4.out a3 c3 B hb3 {V.s with cl:=T1} ⟨⟨hvok.1.1,hvok.1.2.1,hvok.1.2.2.1,hvok.1.2.2.2.1,hT140⟩,hvok.2⟩ (fun w1 gW1 hS1 hM1 => by
    rw [hB.out] at hS1 ⊢;refine (done_c w1 a3 c3 V.s V.a V.s.l.length V.c T1 hT140 hS1 hb3.n).mono ?_;rintro e w' ⟨rfl,g⟩;exact ⟨V.a,V.c,V.L,rfl,hve,.inr ⟨rfl,rfl⟩,hvn,hvc,g⟩)
   rw [← hbl.out] at hwr;clear d0 d1 d2 d3 d4 d5 d6 d7 dz hvok hve hvn hvc;have d0:=h3.v.b.cell (i:=0) (v:=.int .i64 V.s.pr) rfl;have d1:=h3.v.b.cell (i:=1) (v:=.int .i64 V.s.pn) rfl;have d2:=h3.v.b.cell (i:=2) (v:=.int .i64 V.s.ar) rfl;have d3:=h3.v.b.cell (i:=3) (v:=.int .i64 V.s.an) rfl;have d4:=h3.v.b.cell (i:=4) (v:=.slice V.a V.s.l.length V.c) rfl;have d5:=h3.v.b.cell (i:=5) (v:=.int .i64 V.s.cl) rfl;have d6:=h3.v.b.cell (i:=6) (v:=.int .i64 V.nu) rfl;have d7:=h3.v.b.cell (i:=7) (v:=.pointer (some ⟨lb,0,none⟩)) rfl;have dz:=h3.v.b.lt;replace hwr:=Lib.hid hwr;replace h3:=Lib.hid h3;replace hb3:=Lib.hid hb3;replace ho3:=Lib.hid ho3;go_wp2_with fail;refine hwr.out.mono ?_;rintro q w4 ⟨M4,L4,V4,rfl,hd4,hl4,hs4,hn4,h4',ho4,hm4,hg4⟩;have hown:∀ x ∈ vb :: (M.own db ++ L.own lb),x < w.heap.size:=fun x hx => by
    rcases List.mem_cons.1 hx with rfl | hx
    ·exact h.out.v.b.lt
    ·exact h.out.own_lt x hx
   have gf4:GrX (vb :: (M.own db ++ L.own lb)) w w4:=(gw3.x _).trans hg4;have ho4':∀ x ∈ M4.own db ++ L4.own lb,x ∈ M.own db ++ L.own lb ∨ w.heap.size≤x:=fun x hx => by
    rcases ho4 x hx with h5 | h5
    ·exact .inl h5
    ·have:=gw3.size;right;omega
   have hr3:=(hrz.out.gr gn).gr ho3.out.2.2.2.2;have hr3z:=hr3.lt;have hrR:=hr3.grx hg4 (fun hx => by have:=hown _ hx;omega);have hres:∀ x ∈ M4.own db ++ L4.own lb,x ≠ w.heap.size + 1:=fun x hx e => by
    rcases ho4 x hx with h5 | h5
    ·have:=hown x (List.mem_cons_of_mem _ h5);omega
    ·omega
   have hvz:=hown vb List.mem_cons_self;have hWz:=h.out.g.size;have z34:=hg4.size;clear d0 d1 d2 d3 d4 d5 d6 d7 dz;replace hd4:=Lib.hid hd4;replace hl4:=Lib.hid hl4;replace ho4:=Lib.hid ho4;replace ho4':=Lib.hid ho4';replace hm4:=Lib.hid hm4;replace hg4:=Lib.hid hg4;replace gf4:=Lib.hid gf4;replace hown:=Lib.hid hown;replace hres:=Lib.hid hres;replace hr3:=Lib.hid hr3;rcases aocE_cases E M.d L.v (snapB V.s) B with hz | ⟨g,hz,hg⟩
   ·have hq:eV E (aocE M.d L.v (snapB V.s) B) = .nilIface:=by rw [hz];rfl
    have hs4':V4.s = {V.s with cl:=T1}:=by rw [hs4,if_pos hz]
    rw [hq];have hVR:=h4'.v;have d6:=hVR.b.cell (i:=6) (v:=.int .i64 V4.nu) rfl;rw [hn4] at d6;have dz:=hVR.b.lt;have q0:=hrR.cell (i:=0) (v:=.int .i64 0) rfl;have q1:=hrR.cell (i:=1) (v:=.int .i64 0) rfl;have qf0:=hrR.free 0;have qf1:=hrR.free 1;have qz:=hrR.lt;have gs:GrX [w.heap.size + 1] w4 ((w4.setCell ⟨w.heap.size + 1,0,none⟩ (.int .i64 T1)).setCell ⟨w.heap.size + 1,1,none⟩ (.int .i64 V.nu)):=((GrX.refl [w.heap.size + 1] w4).set (p:=⟨w.heap.size + 1,0,none⟩) (.inl (by simp)) _).set (p:=⟨w.heap.size + 1,1,none⟩) (.inl (by simp)) _;have hrf:=(hrR.set 0 (.int .i64 T1)).set 1 (.int .i64 V.nu);have hHf:=h4'.res hrR gs hres.out (by omega) (by omega);have gXf:=gf4.out.trans2 gs (fun x hx => .inr (by rw [List.mem_singleton.1 hx];omega));replace hVR:=Lib.hid hVR;replace hn4:=Lib.hid hn4;replace h4':=Lib.hid h4';replace hs4:=Lib.hid hs4;replace hs4':=Lib.hid hs4';replace hz:=Lib.hid hz;replace hq:=Lib.hid hq;replace hrf:=Lib.hid hrf;replace hHf:=Lib.hid hHf;replace gXf:=Lib.hid gXf;clear gs;go_wp2_with fail;refine bodyPost_ret (v:=.tuple #[.agg #[.int .i64 T1,.int .i64 V.nu],.nilIface]) ?_ rfl ⟨M4,L4,V4,_,hd4.out,hl4.out,hHf.out,rfl,ho4'.out,hm4.out,gXf.out,hn4.out,.inl ⟨hz.out,hs4'.out,rfl⟩⟩;exact (res_cell (b:=w.heap.size + 1) (t:=23) Tryz.results18 _ _ hrf.out rfl Tryz.underlying23 (by kernel_rfl)).trans rfl
   ·have hs4':V4.s = V.s:=by rw [hs4,if_neg hz]
    rw [hg];have q0:=hrR.cell (i:=0) (v:=.int .i64 0) rfl;have q1:=hrR.cell (i:=1) (v:=.int .i64 0) rfl;have qf0:=hrR.free 0;have qf1:=hrR.free 1;have qz:=hrR.lt;have gs:GrX [w.heap.size + 1] w4 ((w4.setCell ⟨w.heap.size + 1,0,none⟩ (.int .i64 0)).setCell ⟨w.heap.size + 1,1,none⟩ (.int .i64 0)):=((GrX.refl [w.heap.size + 1] w4).set (p:=⟨w.heap.size + 1,0,none⟩) (.inl (by simp)) _).set (p:=⟨w.heap.size + 1,1,none⟩) (.inl (by simp)) _;have hrf:=(hrR.set 0 (.int .i64 0)).set 1 (.int .i64 0);have hHf:=h4'.res hrR gs hres.out (by omega) (by omega);have gXf:=gf4.out.trans2 gs (fun x hx => .inr (by rw [List.mem_singleton.1 hx];omega));replace hn4:=Lib.hid hn4;replace h4':=Lib.hid h4';replace hs4:=Lib.hid hs4;replace hs4':=Lib.hid hs4';replace hz:=Lib.hid hz;replace hg:=Lib.hid hg;replace hrf:=Lib.hid hrf;replace hHf:=Lib.hid hHf;replace gXf:=Lib.hid gXf;clear gs;go_wp2_with fail;refine bodyPost_ret (v:=.tuple #[.agg #[.int .i64 0,.int .i64 0],errAt E g]) ?_ rfl ⟨M4,L4,V4,_,hd4.out,hl4.out,hHf.out,rfl,ho4'.out,hm4.out,gXf.out,hn4.out,.inr ⟨g,hz.out,hg.out,hs4'.out,rfl⟩⟩;exact (res_cell (b:=w.heap.size + 1) (t:=23) Tryz.results18 _ _ hrf.out rfl Tryz.underlying23 (by kernel_rfl)).trans rfl
  ·have hTb:t0 = T:=by
    unfold topC at hT;rw [if_pos hb] at hT;rw [ht0];rw [ht0] at hlt;split <;> split at hlt <;> omega
   have hn40:¬ (1099511627776:Int)≤t0:=by omega
   have hw64:IntKind.i64.wrap (t0 + 1) = (T1:Int):=by rw [wraps_i64 _ (by omega) (by omega)];omega
   replace ht0:=Lib.hid ht0;replace hT2:=Lib.hid hT2;replace hT:=Lib.hid hT;replace hT1:=Lib.hid hT1;replace hTb:=Lib.hid hTb;replace hC:=Lib.hid hC;replace h4:=Lib.hid h4;obtain ⟨wn,hwn⟩:∃ wn,wn = wz.alloc (.cells #[.int .i64 3,.int .i64 T1] 3):=⟨_,rfl⟩
   have gn:Gr wz wn:=by rw [hwn];exact (Gr.refl wz).alloc _
   have hrc:=record_no wn (some ⟨wz.heap.size,0,none⟩) 2 [3,T1] (by rw [hwn];exact nats2 wz 3 T1) (by simp;omega) (by simp);have gw2:Gr w wz:=g0.trans gz;rw [← hB.out,← hbl.out] at hrc;replace hrc:Calls Tryz.prog 37 #[.slice (some ⟨wz.heap.size,0,none⟩) 2 2,.slice none 0 0,.bool false] wn fun q w' => ∃ a c,q = .returned (.tuple #[.slice a bl c,.nilIface])∧Own wn w' a c B:=hrc
   replace hrc:=Lib.hid hrc;go_wp2_with fail;rw [← hwn];refine hrc.out.mono ?_;rintro q w3 ⟨a3,c3,rfl,ho3⟩;have h3:=(h2.out.gr gn).gr ho3.2.2.2.2;have hb3:=h2.out.own_byt gn ho3;have gw3:Gr w w3:=(gw2.trans gn).trans ho3.2.2.2.2;have hvok:=h3.v.ok;have hve:=h3.v.e;have hvn:=h3.v.n;have hvc:=h3.v.c;have hwr:=write_any w3 hE.out i0 i4 i5 i3 i6 h3 (by have:=hC.out;omega) h4.out a3 c3 B hb3 {V.s with cl:=T1} ⟨⟨hvok.1.1,hvok.1.2.1,hvok.1.2.2.1,hvok.1.2.2.2.1,hT140⟩,hvok.2⟩ (fun w1 gW1 hS1 hM1 => by
    rw [hB.out] at hS1 ⊢;refine (done_c w1 a3 c3 V.s V.a V.s.l.length V.c T1 hT140 hS1 hb3.n).mono ?_;rintro e w' ⟨rfl,g⟩;exact ⟨V.a,V.c,V.L,rfl,hve,.inr ⟨rfl,rfl⟩,hvn,hvc,g⟩)
   rw [← hbl.out] at hwr;clear d0 d1 d2 d3 d4 d5 d6 d7 dz hvok hve hvn hvc;have d0:=h3.v.b.cell (i:=0) (v:=.int .i64 V.s.pr) rfl;have d1:=h3.v.b.cell (i:=1) (v:=.int .i64 V.s.pn) rfl;have d2:=h3.v.b.cell (i:=2) (v:=.int .i64 V.s.ar) rfl;have d3:=h3.v.b.cell (i:=3) (v:=.int .i64 V.s.an) rfl;have d4:=h3.v.b.cell (i:=4) (v:=.slice V.a V.s.l.length V.c) rfl;have d5:=h3.v.b.cell (i:=5) (v:=.int .i64 V.s.cl) rfl;have d6:=h3.v.b.cell (i:=6) (v:=.int .i64 V.nu) rfl;have d7:=h3.v.b.cell (i:=7) (v:=.pointer (some ⟨lb,0,none⟩)) rfl;have dz:=h3.v.b.lt;replace hwr:=Lib.hid hwr;replace h3:=Lib.hid h3;replace hb3:=Lib.hid hb3;replace ho3:=Lib.hid ho3;go_wp2_with fail;refine hwr.out.mono ?_;rintro q w4 ⟨M4,L4,V4,rfl,hd4,hl4,hs4,hn4,h4',ho4,hm4,hg4⟩;have hown:∀ x ∈ vb :: (M.own db ++ L.own lb),x < w.heap.size:=fun x hx => by
    rcases List.mem_cons.1 hx with rfl | hx
    ·exact h.out.v.b.lt
    ·exact h.out.own_lt x hx
   have gf4:GrX (vb :: (M.own db ++ L.own lb)) w w4:=(gw3.x _).trans hg4;have ho4':∀ x ∈ M4.own db ++ L4.own lb,x ∈ M.own db ++ L.own lb ∨ w.heap.size≤x:=fun x hx => by
    rcases ho4 x hx with h5 | h5
    ·exact .inl h5
    ·have:=gw3.size;right;omega
   have hr3:=(hrz.out.gr gn).gr ho3.out.2.2.2.2;have hr3z:=hr3.lt;have hrR:=hr3.grx hg4 (fun hx => by have:=hown _ hx;omega);have hres:∀ x ∈ M4.own db ++ L4.own lb,x ≠ w.heap.size + 1:=fun x hx e => by
    rcases ho4 x hx with h5 | h5
    ·have:=hown x (List.mem_cons_of_mem _ h5);omega
    ·omega
   have hvz:=hown vb List.mem_cons_self;have hWz:=h.out.g.size;have z34:=hg4.size;clear d0 d1 d2 d3 d4 d5 d6 d7 dz;replace hd4:=Lib.hid hd4;replace hl4:=Lib.hid hl4;replace ho4:=Lib.hid ho4;replace ho4':=Lib.hid ho4';replace hm4:=Lib.hid hm4;replace hg4:=Lib.hid hg4;replace gf4:=Lib.hid gf4;replace hown:=Lib.hid hown;replace hres:=Lib.hid hres;replace hr3:=Lib.hid hr3;rcases aocE_cases E M.d L.v (snapB V.s) B with hz | ⟨g,hz,hg⟩
   ·have hq:eV E (aocE M.d L.v (snapB V.s) B) = .nilIface:=by rw [hz];rfl
    have hs4':V4.s = {V.s with cl:=T1}:=by rw [hs4,if_pos hz]
    rw [hq];have hVR:=h4'.v;have d6:=hVR.b.cell (i:=6) (v:=.int .i64 V4.nu) rfl;rw [hn4] at d6;have dz:=hVR.b.lt;have q0:=hrR.cell (i:=0) (v:=.int .i64 0) rfl;have q1:=hrR.cell (i:=1) (v:=.int .i64 0) rfl;have qf0:=hrR.free 0;have qf1:=hrR.free 1;have qz:=hrR.lt;have gs:GrX [w.heap.size + 1] w4 ((w4.setCell ⟨w.heap.size + 1,0,none⟩ (.int .i64 T1)).setCell ⟨w.heap.size + 1,1,none⟩ (.int .i64 V.nu)):=((GrX.refl [w.heap.size + 1] w4).set (p:=⟨w.heap.size + 1,0,none⟩) (.inl (by simp)) _).set (p:=⟨w.heap.size + 1,1,none⟩) (.inl (by simp)) _;have hrf:=(hrR.set 0 (.int .i64 T1)).set 1 (.int .i64 V.nu);have hHf:=h4'.res hrR gs hres.out (by omega) (by omega);have gXf:=gf4.out.trans2 gs (fun x hx => .inr (by rw [List.mem_singleton.1 hx];omega));replace hVR:=Lib.hid hVR;replace hn4:=Lib.hid hn4;replace h4':=Lib.hid h4';replace hs4:=Lib.hid hs4;replace hs4':=Lib.hid hs4';replace hz:=Lib.hid hz;replace hq:=Lib.hid hq;replace hrf:=Lib.hid hrf;replace hHf:=Lib.hid hHf;replace gXf:=Lib.hid gXf;clear gs;go_wp2_with fail;refine bodyPost_ret (v:=.tuple #[.agg #[.int .i64 T1,.int .i64 V.nu],.nilIface]) ?_ rfl ⟨M4,L4,V4,_,hd4.out,hl4.out,hHf.out,rfl,ho4'.out,hm4.out,gXf.out,hn4.out,.inl ⟨hz.out,hs4'.out,rfl⟩⟩;exact (res_cell (b:=w.heap.size + 1) (t:=23) Tryz.results18 _ _ hrf.out rfl Tryz.underlying23 (by kernel_rfl)).trans rfl
   ·have hs4':V4.s = V.s:=by rw [hs4,if_neg hz]
    rw [hg];have q0:=hrR.cell (i:=0) (v:=.int .i64 0) rfl;have q1:=hrR.cell (i:=1) (v:=.int .i64 0) rfl;have qf0:=hrR.free 0;have qf1:=hrR.free 1;have qz:=hrR.lt;have gs:GrX [w.heap.size + 1] w4 ((w4.setCell ⟨w.heap.size + 1,0,none⟩ (.int .i64 0)).setCell ⟨w.heap.size + 1,1,none⟩ (.int .i64 0)):=((GrX.refl [w.heap.size + 1] w4).set (p:=⟨w.heap.size + 1,0,none⟩) (.inl (by simp)) _).set (p:=⟨w.heap.size + 1,1,none⟩) (.inl (by simp)) _;have hrf:=(hrR.set 0 (.int .i64 0)).set 1 (.int .i64 0);have hHf:=h4'.res hrR gs hres.out (by omega) (by omega);have gXf:=gf4.out.trans2 gs (fun x hx => .inr (by rw [List.mem_singleton.1 hx];omega));replace hn4:=Lib.hid hn4;replace h4':=Lib.hid h4';replace hs4:=Lib.hid hs4;replace hs4':=Lib.hid hs4';replace hz:=Lib.hid hz;replace hg:=Lib.hid hg;replace hrf:=Lib.hid hrf;replace hHf:=Lib.hid hHf;replace gXf:=Lib.hid gXf;clear gs;go_wp2_with fail;refine bodyPost_ret (v:=.tuple #[.agg #[.int .i64 0,.int .i64 0],errAt E g]) ?_ rfl ⟨M4,L4,V4,_,hd4.out,hl4.out,hHf.out,rfl,ho4'.out,hm4.out,gXf.out,hn4.out,.inr ⟨g,hz.out,hg.out,hs4'.out,rfl⟩⟩;exact (res_cell (b:=w.heap.size + 1) (t:=23) Tryz.results18 _ _ hrf.out rfl Tryz.underlying23 (by kernel_rfl)).trans rfl
 ·have hb2:decide (b.r≤1099511627776) = false:=decide_eq_false hb;go_enter Tryz.func18,Tryz.ntmps18;go_upto_region 1 with fail
  have k0:=GrW.cell d0;have k5:=GrW.cell d5;rw [← hwa,← hw0];refine wp_region_grows (by kernel_rfl) (by kernel_rfl) ?_;repeat (any_goals (first | go_big_quiet_step (first | fail) | quiet_step (first | fail)))
  refine wpQuiet_nil ?_;intro wz hwq;have gz:=GrW.of hwq;clear hwq;obtain ⟨cz,fz,sz⟩:=gz.cells;try simp only [size_drewN] at cz fz sz
  try simp only [World.size_alloc] at cz fz sz
  try simp only [World.size_drew] at cz fz sz
  try simp only [World.size_setCell] at cz fz sz
  obtain ⟨t0,ht0⟩:∃ t0:Int,t0 = (if V.s.pr < V.s.cl then (V.s.cl:Int) else (V.s.pr:Int)):=⟨_,rfl⟩
  rw [← ht0];have pz0:=(hp0.gr gz).cell (i:=0) (v:=.int .i64 b.r) rfl;have pzz:=(hp0.gr gz).lt;have hrz:=hr0.gr gz;have h2:=h0.out.gr gz;clear d0 d1 d2 d3 d4 d5 d6 d7 dz k0 k5;have d0:=h2.v.b.cell (i:=0) (v:=.int .i64 V.s.pr) rfl;have d1:=h2.v.b.cell (i:=1) (v:=.int .i64 V.s.pn) rfl;have d2:=h2.v.b.cell (i:=2) (v:=.int .i64 V.s.ar) rfl;have d3:=h2.v.b.cell (i:=3) (v:=.int .i64 V.s.an) rfl;have d4:=h2.v.b.cell (i:=4) (v:=.slice V.a V.s.l.length V.c) rfl;have d5:=h2.v.b.cell (i:=5) (v:=.int .i64 V.s.cl) rfl;have d6:=h2.v.b.cell (i:=6) (v:=.int .i64 V.nu) rfl;have d7:=h2.v.b.cell (i:=7) (v:=.pointer (some ⟨lb,0,none⟩)) rfl;have dz:=h2.v.b.lt;replace h2:=Lib.hid h2;replace hrz:=Lib.hid hrz;have hTb:t0 = T:=by
   unfold topC at hT;rw [if_neg hb] at hT;rw [ht0];split <;> omega
  have hn40:¬ (1099511627776:Int)≤t0:=by omega
  have hw64:IntKind.i64.wrap (t0 + 1) = (T1:Int):=by rw [wraps_i64 _ (by omega) (by omega)];omega
  replace ht0:=Lib.hid ht0;replace hT2:=Lib.hid hT2;replace hT:=Lib.hid hT;replace hT1:=Lib.hid hT1;replace hTb:=Lib.hid hTb;replace hC:=Lib.hid hC;replace h4:=Lib.hid h4;obtain ⟨wn,hwn⟩:∃ wn,wn = wz.alloc (.cells #[.int .i64 3,.int .i64 T1] 3):=⟨_,rfl⟩
  have gn:Gr wz wn:=by rw [hwn];exact (Gr.refl wz).alloc _
  have hrc:=record_no wn (some ⟨wz.heap.size,0,none⟩) 2 [3,T1] (by rw [hwn];exact nats2 wz 3 T1) (by simp;omega) (by simp);have gw2:Gr w wz:=g0.trans gz;rw [← hB.out,← hbl.out] at hrc;replace hrc:Calls Tryz.prog 37 #[.slice (some ⟨wz.heap.size,0,none⟩) 2 2,.slice none 0 0,.bool false] wn fun q w' => ∃ a c,q = .returned (.tuple #[.slice a bl c,.nilIface])∧Own wn w' a c B:=hrc
  replace hrc:=Lib.hid hrc;go_wp2_with fail;rw [← hwn];refine hrc.out.mono ?_;rintro q w3 ⟨a3,c3,rfl,ho3⟩;have h3:=(h2.out.gr gn).gr ho3.2.2.2.2;have hb3:=h2.out.own_byt gn ho3;have gw3:Gr w w3:=(gw2.trans gn).trans ho3.2.2.2.2;have hvok:=h3.v.ok;have hve:=h3.v.e;have hvn:=h3.v.n;have hvc:=h3.v.c;have hwr:=write_any w3 hE.out i0 i4 i5 i3 i6 h3 (by have:=hC.out;omega) h4.out a3 c3 B hb3 {V.s with cl:=T1} ⟨⟨hvok.1.1,hvok.1.2.1,hvok.1.2.2.1,hvok.1.2.2.2.1,hT140⟩,hvok.2⟩ (fun w1 gW1 hS1 hM1 => by
   rw [hB.out] at hS1 ⊢;refine (done_c w1 a3 c3 V.s V.a V.s.l.length V.c T1 hT140 hS1 hb3.n).mono ?_;rintro e w' ⟨rfl,g⟩;exact ⟨V.a,V.c,V.L,rfl,hve,.inr ⟨rfl,rfl⟩,hvn,hvc,g⟩)
  rw [← hbl.out] at hwr;clear d0 d1 d2 d3 d4 d5 d6 d7 dz hvok hve hvn hvc;have d0:=h3.v.b.cell (i:=0) (v:=.int .i64 V.s.pr) rfl;have d1:=h3.v.b.cell (i:=1) (v:=.int .i64 V.s.pn) rfl;have d2:=h3.v.b.cell (i:=2) (v:=.int .i64 V.s.ar) rfl;have d3:=h3.v.b.cell (i:=3) (v:=.int .i64 V.s.an) rfl;have d4:=h3.v.b.cell (i:=4) (v:=.slice V.a V.s.l.length V.c) rfl;have d5:=h3.v.b.cell (i:=5) (v:=.int .i64 V.s.cl) rfl;have d6:=h3.v.b.cell (i:=6) (v:=.int .i64 V.nu) rfl;have d7:=h3.v.b.cell (i:=7) (v:=.pointer (some ⟨lb,0,none⟩)) rfl;have dz:=h3.v.b.lt;replace hwr:=Lib.hid hwr;replace h3:=Lib.hid h3;replace hb3:=Lib.hid hb3;replace ho3:=Lib.hid ho3;go_wp2_with fail;refine hwr.out.mono ?_;rintro q w4 ⟨M4,L4,V4,rfl,hd4,hl4,hs4,hn4,h4',ho4,hm4,hg4⟩;have hown:∀ x ∈ vb :: (M.own db ++ L.own lb),x < w.heap.size:=fun x hx => by
   rcases List.mem_cons.1 hx with rfl | hx
   ·exact h.out.v.b.lt
   ·exact h.out.own_lt x hx
  have gf4:GrX (vb :: (M.own db ++ L.own lb)) w w4:=(gw3.x _).trans hg4;have ho4':∀ x ∈ M4.own db ++ L4.own lb,x ∈ M.own db ++ L.own lb ∨ w.heap.size≤x:=fun x hx => by
   rcases ho4 x hx with h5 | h5
   ·exact .inl h5
   ·have:=gw3.size;right;omega
  have hr3:=(hrz.out.gr gn).gr ho3.out.2.2.2.2;have hr3z:=hr3.lt;have hrR:=hr3.grx hg4 (fun hx => by have:=hown _ hx;omega);have hres:∀ x ∈ M4.own db ++ L4.own lb,x ≠ w.heap.size + 1:=fun x hx e => by
   rcases ho4 x hx with h5 | h5
   ·have:=hown x (List.mem_cons_of_mem _ h5);omega
   ·omega
  have hvz:=hown vb List.mem_cons_self;have hWz:=h.out.g.size;have z34:=hg4.size;clear d0 d1 d2 d3 d4 d5 d6 d7 dz;replace hd4:=Lib.hid hd4;replace hl4:=Lib.hid hl4;replace ho4:=Lib.hid ho4;replace ho4':=Lib.hid ho4';replace hm4:=Lib.hid hm4;replace hg4:=Lib.hid hg4;replace gf4:=Lib.hid gf4;replace hown:=Lib.hid hown;replace hres:=Lib.hid hres;replace hr3:=Lib.hid hr3;rcases aocE_cases E M.d L.v (snapB V.s) B with hz | ⟨g,hz,hg⟩
  ·have hq:eV E (aocE M.d L.v (snapB V.s) B) = .nilIface:=by rw [hz];rfl
   have hs4':V4.s = {V.s with cl:=T1}:=by rw [hs4,if_pos hz]
   rw [hq];have hVR:=h4'.v;have d6:=hVR.b.cell (i:=6) (v:=.int .i64 V4.nu) rfl;rw [hn4] at d6;have dz:=hVR.b.lt;have q0:=hrR.cell (i:=0) (v:=.int .i64 0) rfl;have q1:=hrR.cell (i:=1) (v:=.int .i64 0) rfl;have qf0:=hrR.free 0;have qf1:=hrR.free 1;have qz:=hrR.lt;have gs:GrX [w.heap.size + 1] w4 ((w4.setCell ⟨w.heap.size + 1,0,none⟩ (.int .i64 T1)).setCell ⟨w.heap.size + 1,1,none⟩ (.int .i64 V.nu)):=((GrX.refl [w.heap.size + 1] w4).set (p:=⟨w.heap.size + 1,0,none⟩) (.inl (by simp)) _).set (p:=⟨w.heap.size + 1,1,none⟩) (.inl (by simp)) _;have hrf:=(hrR.set 0 (.int .i64 T1)).set 1 (.int .i64 V.nu);have hHf:=h4'.res hrR gs hres.out (by omega) (by omega);have gXf:=gf4.out.trans2 gs (fun x hx => .inr (by rw [List.mem_singleton.1 hx];omega));replace hVR:=Lib.hid hVR;replace hn4:=Lib.hid hn4;replace h4':=Lib.hid h4';replace hs4:=Lib.hid hs4;replace hs4':=Lib.hid hs4';replace hz:=Lib.hid hz;replace hq:=Lib.hid hq;replace hrf:=Lib.hid hrf;replace hHf:=Lib.hid hHf;replace gXf:=Lib.hid gXf;clear gs;go_wp2_with fail;refine bodyPost_ret (v:=.tuple #[.agg #[.int .i64 T1,.int .i64 V.nu],.nilIface]) ?_ rfl ⟨M4,L4,V4,_,hd4.out,hl4.out,hHf.out,rfl,ho4'.out,hm4.out,gXf.out,hn4.out,.inl ⟨hz.out,hs4'.out,rfl⟩⟩;exact (res_cell (b:=w.heap.size + 1) (t:=23) Tryz.results18 _ _ hrf.out rfl Tryz.underlying23 (by kernel_rfl)).trans rfl
  ·have hs4':V4.s = V.s:=by rw [hs4,if_neg hz]
   rw [hg];have q0:=hrR.cell (i:=0) (v:=.int .i64 0) rfl;have q1:=hrR.cell (i:=1) (v:=.int .i64 0) rfl;have qf0:=hrR.free 0;have qf1:=hrR.free 1;have qz:=hrR.lt;have gs:GrX [w.heap.size + 1] w4 ((w4.setCell ⟨w.heap.size + 1,0,none⟩ (.int .i64 0)).setCell ⟨w.heap.size + 1,1,none⟩ (.int .i64 0)):=((GrX.refl [w.heap.size + 1] w4).set (p:=⟨w.heap.size + 1,0,none⟩) (.inl (by simp)) _).set (p:=⟨w.heap.size + 1,1,none⟩) (.inl (by simp)) _;have hrf:=(hrR.set 0 (.int .i64 0)).set 1 (.int .i64 0);have hHf:=h4'.res hrR gs hres.out (by omega) (by omega);have gXf:=gf4.out.trans2 gs (fun x hx => .inr (by rw [List.mem_singleton.1 hx];omega));replace hn4:=Lib.hid hn4;replace h4':=Lib.hid h4';replace hs4:=Lib.hid hs4;replace hs4':=Lib.hid hs4';replace hz:=Lib.hid hz;replace hg:=Lib.hid hg;replace hrf:=Lib.hid hrf;replace hHf:=Lib.hid hHf;replace gXf:=Lib.hid gXf;clear gs;go_wp2_with fail;refine bodyPost_ret (v:=.tuple #[.agg #[.int .i64 0,.int .i64 0],errAt E g]) ?_ rfl ⟨M4,L4,V4,_,hd4.out,hl4.out,hHf.out,rfl,ho4'.out,hm4.out,gXf.out,hn4.out,.inr ⟨g,hz.out,hg.out,hs4'.out,rfl⟩⟩;exact (res_cell (b:=w.heap.size + 1) (t:=23) Tryz.results18 _ _ hrf.out rfl Tryz.underlying23 (by kernel_rfl)).trans rfl
theorem aocE_lost {d:DskV} (v:LogV) (sb b:List UInt8) (h:d.lost = true):aocE d v sb b = 9∧wrtD d v sb b = d:=by
 have h1:appE d v b = 9:=by unfold appE;rw [if_pos h]
 have h2:aocE d v sb b = 9:=by unfold aocE;rw [if_neg (by rw [h1];decide)];exact h1
 refine ⟨h2,?_⟩;unfold wrtD aocD;rw [if_neg (by rw [h2];decide),if_neg (by rw [h1];decide)];exact appD_same (by rw [h1];decide)
theorem syncD_n (d:DskV):(syncD d).n = d.n:=by unfold syncD;split <;> rfl
theorem aocD_n (d:DskV) (v:LogV) (sb b:List UInt8):(aocD d v sb b).n = d.n:=by
 unfold aocD;split
 ·split
  ·rw [appD_n,chkD_n]
  ·rw [chkD_n]
 ·rw [appD_n]
theorem wrtD_n (d:DskV) (v:LogV) (sb b:List UInt8):(wrtD d v sb b).n = d.n:=by
 unfold wrtD;split
 ·rw [syncD_n,aocD_n]
 ·rw [aocD_n]
structure VcP (W:World) (db lb vb:Nat) (V V':VotM) (M M':DskM) (L L':LogM) (w w':World):Prop where
 h:Hold W db lb vb V' M' L' w'
 o:∀ b ∈ M'.own db ++ L'.own lb,b ∈ M.own db ++ L.own lb ∨ w.heap.size≤b
 m:M'.m + M'.d.C.length≤M.m + M.d.C.length + 3000
 g:GrX (vb :: (M.own db ++ L.own lb)) w w'
 u:V'.nu = V.nu
 n:M'.d.n = M.d.n
 l:M.d.lost = true→M'.d = M.d∧V'.s = V.s
theorem VcP.same {W:World} {db lb vb:Nat} {V:VotM} {M:DskM} {L:LogM} {w w':World} (h:Hold W db lb vb V M L w) (g:Gr w w'):VcP W db lb vb V V M M L L w w' :=
 ⟨h.gr g,fun b hb => .inl hb,by omega,g.x _,rfl,rfl,fun _ => ⟨rfl,rfl⟩⟩
def isErr (E:Nat→Addr) (e:Value):Prop:=∃ g,e = errAt E g
theorem prep_any {G:List Nat} {E:Nat→Addr} {W:World} (w:World) (hE:EAt G E W) (i0:4 ∈ G) (i4:0 ∈ G) (i5:1 ∈ G) (i3:5 ∈ G) (i6:2 ∈ G) (i8:6 ∈ G) {db lb vb:Nat} {V:VotM} {M:DskM} {L:LogM} (h:Hold W db lb vb V M L w) (hC:M.m + M.d.C.length≤880000) (h4:4≤M.d.n) (b:Bal) :
 Calls Tryz.prog 13 #[.pointer (some ⟨vb,0,none⟩),.agg #[.int .i64 b.r,.int .i64 b.n]] w fun e w' => ∃ (V':VotM) (M':DskM) (L':LogM) (x y:Int) (a:Option Addr) (n c:Nat) (er:Value),e = .returned (.tuple #[.agg #[.int .i64 x,.int .i64 y],.slice a n c,er])∧VcP W db lb vb V V' M M' L L' w w'∧((er = .nilIface∧(M.d.lost = true→b.r = V.s.pr∧b.n = V.s.pn)) ∨ isErr E er):=by
 by_cases hm:mayB V b = true
 ·by_cases hs:(V.s.pr:Int) = b.r∧(V.s.pn:Int) = b.n
  ·refine (prep_same w (hE.gr h.g) i5 i8 h.v b hm hs.1 hs.2).mono ?_;rintro e w' ⟨⟨a,c,L1,rfl,-,-,-,-⟩,g⟩;exact ⟨V,M,L,_,_,a,_,c,_,rfl,VcP.same h g,.inl ⟨rfl,fun _ => ⟨hs.1.symm,hs.2.symm⟩⟩⟩
  ·have hleg:1≤b.r∧b.r≤1099511627776∧0≤b.n∧b.n≤6:=by
    unfold mayB at hm;rw [Bool.and_eq_true] at hm;exact of_decide_eq_true hm.1
   refine (prep_new w hE i0 i4 i5 i3 i6 i8 h hC h4 b b.r.toNat b.n.toNat (by omega) (by omega) hm hs).mono ?_;rintro e w' ⟨M',L',V',own,h1,h2,h3,rfl,h4',h5,h6,h7,h8⟩;have hl:M.d.lost = true→M'.d = M.d∧V'.s = V.s:=fun hl => by
    obtain ⟨q1,q2⟩:=aocE_lost (d:=M.d) L.v (snapB V.s) (vrB [1,b.r.toNat,b.n.toNat] none) hl;refine ⟨by rw [h1,q2],?_⟩;rcases h8 with ⟨h9,-⟩ | ⟨g,-,-,h9,-⟩
    ·rw [q1] at h9;cases h9
    ·exact h9
   have hv:VcP W db lb vb V V' M M' L L' w w':=⟨h3,h4',h5,h6,h7,by rw [h1,wrtD_n],hl⟩
   rcases h8 with ⟨h9,h10,a,c,Lc,rfl,-⟩ | ⟨g,-,-,-,rfl⟩
   ·refine ⟨V',M',L',_,_,a,_,c,_,rfl,hv,.inl ⟨rfl,fun hl => ?_⟩⟩;rw [(aocE_lost (d:=M.d) L.v (snapB V.s) _ hl).1] at h9;cases h9
   ·exact ⟨V',M',L',_,_,none,0,0,_,rfl,hv,.inr ⟨g,rfl⟩⟩
 ·refine (prep_no w (hE.gr h.g) i5 i8 h.v b (by simpa using hm)).mono ?_;rintro e w' ⟨⟨g,-,rfl⟩,hg⟩;exact ⟨V,M,L,_,_,none,0,0,_,rfl,VcP.same h hg,.inr ⟨g,rfl⟩⟩
theorem acc_any {G:List Nat} {E:Nat→Addr} {W:World} (w:World) (hE:EAt G E W) (i0:4 ∈ G) (i4:0 ∈ G) (i5:1 ∈ G) (i3:5 ∈ G) (i6:2 ∈ G) (i8:6 ∈ G) {db lb vb:Nat} {V:VotM} {M:DskM} {L:LogM} (h:Hold W db lb vb V M L w) (hC:M.m + M.d.C.length≤880000) (h4:4≤M.d.n) (b:Bal) (a2:Option Addr) (c2:Nat) (Lg:List EntM) (hM2:LedM Any w a2 Lg) (ha2:a2 = none→c2 = 0) (hc2:Lg.length≤c2) :
 Calls Tryz.prog 14 #[.pointer (some ⟨vb,0,none⟩),.agg #[.int .i64 b.r,.int .i64 b.n],.slice a2 Lg.length c2] w fun e w' => ∃ (V':VotM) (M':DskM) (L':LogM) (er:Value),e = .returned er∧VcP W db lb vb V V' M M' L L' w w'∧((er = .nilIface∧M.d.lost ≠ true) ∨ isErr E er):=by
 by_cases hm:mayB V b = true
 ·by_cases hf:ledF (Ents Lg) = true
  ·have hleg:1≤b.r∧b.r≤1099511627776∧0≤b.n∧b.n≤6:=by
    unfold mayB at hm;rw [Bool.and_eq_true] at hm;exact of_decide_eq_true hm.1
   refine (acc_go w hE i0 i4 i5 i3 i6 i8 h hC h4 b b.r.toNat b.n.toNat (by omega) (by omega) hm a2 c2 Lg hM2 hf ha2 hc2).mono ?_;rintro e w' hq;obtain ⟨B,hB⟩:∃ B,B = vrB [2,b.r.toNat,b.n.toNat,shN V.s.l (Ents Lg)] (some ((Ents Lg).drop (shN V.s.l (Ents Lg)))):=⟨_,rfl⟩
   rw [← hB] at hq;obtain ⟨M',L',V',rfl,h1,h2,h3,h4',h5,h6,h7,h8⟩:=hq.x;have hl:M.d.lost = true→M'.d = M.d∧V'.s = V.s:=fun hl => by
    obtain ⟨q1,q2⟩:=aocE_lost (d:=M.d) L.v (snapB V.s) B hl;exact ⟨by rw [h1,q2],by rw [h3,q1,if_neg (by decide)]⟩
   refine ⟨V',M',L',_,rfl,⟨h5,h6,h7,h8,h4',by rw [h1,wrtD_n],hl⟩,?_⟩;rcases aocE_cases E M.d L.v (snapB V.s) B with hz | ⟨g,hz,hg⟩
   ·refine .inl ⟨by rw [hz];rfl,fun hl => ?_⟩;rw [(aocE_lost (d:=M.d) L.v (snapB V.s) B hl).1] at hz;cases hz
   ·exact .inr ⟨g,hg⟩
  ·refine (acc_form w hE i0 i5 i3 i8 h b hm a2 c2 Lg hM2 (by simpa using hf)).mono ?_;rintro e w' ⟨⟨g,-,-,rfl⟩,hg⟩;exact ⟨V,M,L,_,rfl,VcP.same h hg,.inr ⟨g,rfl⟩⟩
 ·refine (acc_no w hE i5 i8 h b (by simpa using hm) a2 c2 Lg).mono ?_;rintro e w' ⟨rfl,hg⟩;refine ⟨V,M,L,_,rfl,VcP.same h hg,.inr ?_⟩;rcases may_no (E:=E) (V:=V) (b:=b) (by simpa using hm) with h1 | h1
  ·exact ⟨_,h1⟩
  ·exact ⟨_,h1⟩
theorem topC_nat (s:VotS) (b:Bal):∃ T:Nat,topC s b = T:=by
 have:0≤topC s b:=by unfold topC;split <;> omega
 exact ⟨(topC s b).toNat,by omega⟩
theorem clm_any {G:List Nat} {E:Nat→Addr} {W:World} (w:World) (hE:EAt G E W) (i0:4 ∈ G) (i4:0 ∈ G) (i5:1 ∈ G) (i3:5 ∈ G) (i6:2 ∈ G) {db lb vb:Nat} {V:VotM} {M:DskM} {L:LogM} (h:Hold W db lb vb V M L w) (hC:M.m + M.d.C.length≤880000) (h4:4≤M.d.n) (b:Bal) :
 Calls Tryz.prog 18 #[.pointer (some ⟨vb,0,none⟩),.agg #[.int .i64 b.r,.int .i64 b.n]] w fun e w' => ∃ (V':VotM) (M':DskM) (L':LogM) (x y:Int) (er:Value),e = .returned (.tuple #[.agg #[.int .i64 x,.int .i64 y],er])∧VcP W db lb vb V V' M M' L L' w w'∧((er = .nilIface∧M.d.lost ≠ true) ∨ isErr E er):=by
 obtain ⟨T,hT⟩:=topC_nat V.s b;by_cases ht:T < 1099511627776
 ·refine (claim_go w hE i0 i4 i5 i3 i6 h hC h4 b T hT ht).mono ?_;rintro e w' ⟨M',L',V',own,h1,h2,h3,rfl,h4',h5,h6,h7,h8⟩;have hl:M.d.lost = true→M'.d = M.d∧V'.s = V.s:=fun hl => by
   obtain ⟨q1,q2⟩:=aocE_lost (d:=M.d) L.v (snapB V.s) (vrB [3,T + 1] none) hl;refine ⟨by rw [h1,q2],?_⟩;rcases h8 with ⟨h9,-⟩ | ⟨g,-,-,h9,-⟩
   ·rw [q1] at h9;cases h9
   ·exact h9
  have hv:VcP W db lb vb V V' M M' L L' w w':=⟨h3,h4',h5,h6,h7,by rw [h1,wrtD_n],hl⟩
  rcases h8 with ⟨h9,h10,rfl⟩ | ⟨g,-,-,-,rfl⟩
  ·refine ⟨V',M',L',_,_,_,rfl,hv,.inl ⟨rfl,fun hl => ?_⟩⟩;rw [(aocE_lost (d:=M.d) L.v (snapB V.s) _ hl).1] at h9;cases h9
  ·exact ⟨V',M',L',_,_,_,rfl,hv,.inr ⟨g,rfl⟩⟩
 ·refine (claim_full w hE i6 h b (by rw [hT];omega)).mono ?_;rintro e w' ⟨rfl,hg⟩;exact ⟨V,M,L,_,_,_,rfl,VcP.same h hg,.inr ⟨_,rfl⟩⟩
end Go.Proofs.YteigofaccjaobaaGreatDoor
namespace Go.Proofs.YteigofaccjaobaaGreatDoor
open Go.ChangeShapes Go.WideShapes Go.ChangeAt Go.RowKit Go.Deep Go.Joins
structure Op18 where
 kd:Int
 tn:Int
 kp:Int
 b:Bal
 L:List EntM
 a:Option Addr
 c:Nat
abbrev Op18.cells (x:Op18):List Value:=[.int .i64 x.kd,.int .i64 x.tn,.int .u64 x.kp,.int .i64 x.b.r,.int .i64 x.b.n,.slice x.a x.L.length x.c]
theorem Op18.cells_len (x:Op18):x.cells.length = 6:=rfl
def Op18.ok (W:World) (x:Op18):Prop:=LedM Any W x.a x.L∧x.L.length * 96≤140737488351232∧(x.a = none→x.c = 0)∧x.L.length≤x.c∧x.c≤maxLen
def U64 (x:Int):Prop:=0≤x∧x≤18446744073709551615
theorem u64_of_wf {x:Int} (h:(Lit.int .u64 x).wf = true):U64 x:=by
 simp [Lit.wf,IntKind.min,IntKind.max,IntKind.signed,IntKind.bits] at h;unfold U64;omega
section
variable {H:Type} {enc:TypeId × Value→H} {W:World}
set_option maxRecDepth 100000 in
theorem op18_of_trod (n:Nat) (cs:List Value) (y:DataW H × List MemPlace) (h:DataW.trod enc Tryz.prog W 0 (fun _ => true) true n 40 cs = some y):∃ s:Op18,cs = s.cells∧(I64 s.tn∧U64 s.kp∧BalI s.b)∧((y.1.weights Tryz.prog 40).all (·≤reachBytes) = true→s.ok W):=by
 have hc:Tryz.prog.cellsOf 40 = 6:=by kernel_rfl
 have hci:Tryz.prog.cellsOf 3 = 1:=by kernel_rfl
 have hcu:Tryz.prog.cellsOf 37 = 1:=by kernel_rfl
 have hcb:Tryz.prog.cellsOf 23 = 2:=by kernel_rfl
 have hcl:Tryz.prog.cellsOf 38 = 1:=by kernel_rfl
 obtain ⟨xs,m2,_,hy2,hlen,hxl,hf⟩:=DataW.trod_struct Tryz.underlying40 h;rw [hc] at hlen
 match cs,hlen with
 | [c0,c1,c2,c3,c4,c5],_ =>
  match xs,hxl with
  | [z0,z1,z2,z3,z4],_ =>
   have u0:DataW.trod enc Tryz.prog W 0 (fun _ => true) true m2 3 (List.take (Tryz.prog.cellsOf 3) (List.drop 0 [c0,c1,c2,c3,c4,c5])) = some z0:=hf 0 _ rfl;rw [hci] at u0;have u1:DataW.trod enc Tryz.prog W 0 (fun _ => true) true m2 3 (List.take (Tryz.prog.cellsOf 3) (List.drop 1 [c0,c1,c2,c3,c4,c5])) = some z1:=hf 1 _ rfl;rw [hci] at u1;have u2:DataW.trod enc Tryz.prog W 0 (fun _ => true) true m2 37 (List.take (Tryz.prog.cellsOf 37) (List.drop 2 [c0,c1,c2,c3,c4,c5])) = some z2:=hf 2 _ rfl;rw [hcu] at u2;have u3:DataW.trod enc Tryz.prog W 0 (fun _ => true) true m2 23 (List.take (Tryz.prog.cellsOf 23) (List.drop 3 [c0,c1,c2,c3,c4,c5])) = some z3:=hf 3 _ rfl;rw [hcb] at u3;have u4:DataW.trod enc Tryz.prog W 0 (fun _ => true) true m2 38 (List.take (Tryz.prog.cellsOf 38) (List.drop 5 [c0,c1,c2,c3,c4,c5])) = some z4:=hf 4 _ rfl;rw [hcl] at u4;obtain ⟨kd,e0,_,w0⟩:=DataW.trod_int Tryz.underlying3 u0;obtain ⟨tn,e1,_,w1⟩:=DataW.trod_int Tryz.underlying3 u1;obtain ⟨kp,e2,_,w2⟩:=DataW.trod_int Tryz.underlying37 u2;obtain ⟨b,e3,w3,_⟩:=bal_of_trod _ _ _ u3;obtain ⟨a,c,L,e4,r1,r2,r3,r4,r5,r6⟩:=recs_of_trod (k:=10) (bytes:=96) (code:=EntM.cells) Tryz.underlying38 (by kernel_rfl) (by kernel_rfl) (by omega) EntM.cells_len (ent_of_trod (enc:=enc) (W:=W)) u4;simp at e0 e1 e2 e3 e4;obtain ⟨e3a,e3b⟩:=e3;subst e0 e1 e2 e3a e3b e4;refine ⟨⟨kd,tn,kp,b,L,a,c⟩,rfl,⟨i64_of_wf w1,u64_of_wf w2,w3⟩,fun hw => ?_⟩;rw [hy2] at hw;simp only [DataW.weights,Tryz.underlying40,List.map_cons,List.map_nil,DataW.weightsEach,List.all_append,Bool.and_eq_true] at hw;have h6:=r6 hw.2.2.2.2.1;exact ⟨⟨r1,fun x hx => (r5 x hx).ok (h6.2 x hx)⟩,by have:=h6.1;unfold reachBytes at this;show L.length * 96≤_;omega,r2,r3,r4⟩
set_option maxRecDepth 100000 in
theorem open_ops18 {base:Nat} {v:Value} {d:DataW H} {p:List MemPlace} (hval:Value.okWide Tryz.prog W .any base 28 v) (h:DataW.Trod enc Tryz.prog W 0 (fun _ => true) true 28 v d p) :
 ∃ (a:Option Addr) (c:Nat) (L:List Op18),v = .slice a L.length c∧RecsIn Any 6 Op18.cells W a L∧(∀ x ∈ L,I64 x.tn∧U64 x.kp∧BalI x.b)∧L.length≤maxLen∧((d.weights Tryz.prog 28).all (·≤reachBytes) = true→L.length * 64≤reachBytes∧∀ x ∈ L,x.ok W):=by
 obtain ⟨a0,len,cap,rfl⟩:=okWide_slice Tryz.underlying28 hval;obtain ⟨fuel,hf⟩:=h;obtain ⟨a,c,L,hcs,r1,r2,r3,r4,r5,r6⟩:=recs_of_trod (k:=6) (bytes:=64) (code:=Op18.cells) Tryz.underlying28 (by kernel_rfl) (by kernel_rfl) (by omega) Op18.cells_len (op18_of_trod (enc:=enc) (W:=W)) hf;simp [Value.cells] at hcs;obtain ⟨rfl,rfl,rfl⟩:=hcs;exact ⟨_,_,L,rfl,r1,r5,by omega,r6⟩
end
end Go.Proofs.YteigofaccjaobaaGreatDoor
namespace Go.Proofs.YteigofaccjaobaaGreatDoor
open Go.RowKit
abbrev vot0:VotS:=⟨0,0,0,0,[],0⟩
theorem vot0_ok:vot0.ok:=⟨⟨by decide,by decide,by decide,by decide,by decide⟩,ledF_iff.2 ⟨by simp,fun e he => by cases he⟩⟩
abbrev ale:Ent:=⟨0,1,3,0,⟨0,0,0⟩,0,[],0⟩
abbrev alB0:List UInt8:=[0,0,0,0,0,1,0]
abbrev alB1:List UInt8:=[1,1,0]
abbrev alB2:List UInt8:=[2,1,0,0,12,1,10,0,1,3,0,0,0,0,0,0,0]
abbrev alB3:List UInt8:=[3,2]
theorem al_b0:snapB vot0 = alB0:=by simp [snapB,numsB,ledB,numB_small]
theorem al_b1:vrB [1,1,0] none = alB1:=by simp [vrB,numsB,numB_small]
theorem al_b2:vrB [2,1,0,0] (some [ale]) = alB2:=by simp [vrB,numsB,ledB,itemB,listB,entN,headN,numB_small]
theorem al_b3:vrB [3,2] none = alB3:=by simp [vrB,numsB,numB_small]
theorem al_rec {g e i:Nat} {d:List UInt8} (hg:g < 128) (he:e < 128) (hi:i < 128) (hd:d.length < 128):recB ⟨g,e,i,d⟩ = UInt8.ofNat g :: UInt8.ofNat e :: UInt8.ofNat i :: UInt8.ofNat d.length :: d:=by
 simp [recB,numB_small,hg,he,hi,hd]
theorem al_cost {g e i:Nat} {d:List UInt8} (hg:g < 128) (he:e < 128) (hi:i < 128) (hd:d.length≤40):costR ⟨g,e,i,d⟩ = 1:=by
 unfold costR frR;rw [frameB_len,al_rec hg he hi (by omega)];unfold costN;simp;omega
abbrev alR0:Rc:=⟨1,1,0,alB0⟩
abbrev alR1:Rc:=⟨1,1,1,alB1⟩
abbrev alR2:Rc:=⟨1,1,2,alB2⟩
theorem al_f0:frR alR0 = frameB [1,1,0,7,0,0,0,0,0,1,0]:=by unfold frR;rw [al_rec (by decide) (by decide) (by decide) (by decide)];rfl
theorem al_f1:frR alR1 = frameB [1,1,1,3,1,1,0]:=by unfold frR;rw [al_rec (by decide) (by decide) (by decide) (by decide)];rfl
theorem al_f2:frR alR2 = frameB ([1,1,2,17] ++ alB2):=by unfold frR;rw [al_rec (by decide) (by decide) (by decide) (by decide)];rfl
def alD0:DskV:=newD 40
def alD1:DskV:=(putD ((alD0.write 39 (pad (frameB [1]))).flush) 0 (frameB [1,1,0,7,0,0,0,0,0,1,0])).flush
def alD2:DskV:=(putD alD1 1 (frameB [1,1,1,3,1,1,0])).flush
def alD3:DskV:=(putD alD2 2 (frameB ([1,1,2,17] ++ alB2))).flush
theorem scan_step {f u:Nat} {L:List (List UInt8)} {rs:List Rc} {r:Rc} (hu:usedR rs = u) (hs:standF (L.drop u) = some r) (hf:folF rs r):scanF (f + 1) L rs = scanF f L (rs ++ [r]):=by
 show (match standF (L.drop (usedR rs)) with | some r => if folF rs r then scanF f L (rs ++ [r]) else rs | none => rs) = _;rw [hu,hs];exact if_pos hf
theorem scan_stop {f u:Nat} {L:List (List UInt8)} {rs:List Rc} (hu:usedR rs = u) (hs:standF (L.drop u) = none):scanF (f + 1) L rs = rs:=by
 show (match standF (L.drop (usedR rs)) with | some r => if folF rs r then scanF f L (rs ++ [r]) else rs | none => rs) = _;rw [hu,hs]
theorem al_u0:usedR [] = 0:=rfl
theorem al_u1:usedR [alR0] = 1:=by unfold usedR;simp [al_cost]
theorem al_u2:usedR [alR0,alR1] = 2:=by unfold usedR;simp [al_cost]
theorem al_u3:usedR [alR0,alR1,alR2] = 3:=by unfold usedR;simp [al_cost]
theorem area_len (d:DskV) (f n:Nat):areaF (secL d f n) = scanF (n + 1) (secL d f n) []:=by unfold areaF;rw [secL_len]
theorem al_zA:areaA alD0 = []:=(area_len alD0 0 19).trans (scan_stop al_u0 (by kernel_rfl))
theorem al_zB:areaB alD0 = []:=(area_len alD0 19 19).trans (scan_stop al_u0 (by kernel_rfl))
theorem al_new0:newR alD0 = []:=by unfold newR secondD;rw [al_zA,al_zB];rfl
theorem al_A3:areaA alD3 = [alR0,alR1,alR2]:=by
 refine (area_len alD3 0 19).trans ?_;refine (scan_step (r:=alR0) al_u0 (by kernel_rfl) ⟨rfl,by decide⟩).trans ?_;refine (scan_step (r:=alR1) al_u1 (by kernel_rfl) ⟨rfl,rfl,Nat.le_refl _⟩).trans ?_;refine (scan_step (r:=alR2) al_u2 (by kernel_rfl) ⟨rfl,rfl,Nat.le_refl _⟩).trans ?_;exact scan_stop al_u3 (by kernel_rfl)
theorem al_B3:areaB alD3 = []:=(area_len alD3 19 19).trans (scan_stop al_u0 (by kernel_rfl))
theorem al_new3:newR alD3 = [alR0,alR1,alR2]:=by unfold newR secondD;rw [al_A3,al_B3];rfl
theorem al_sec0:secondD alD0 = false:=by unfold secondD;rw [al_zA,al_zB];rfl
theorem al_t0:fmtT alD0 = 0:=by unfold fmtT topF;rw [al_new0];kernel_rfl
theorem al_t3:fmtT alD3 = 1:=by unfold fmtT topF;rw [al_new3];kernel_rfl
structure VopP (W:World) (db:Nat) (nu:Nat) (s:VotS) (d:DskV) (v:LogV) (M:DskM) (w:World) (q:Ending) (w':World):Prop where
 x:∃ vb lb V M' L',q = .returned (.tuple #[.pointer (some ⟨vb,0,none⟩),.nilIface])∧M'.d = d∧L'.v = v∧M'.m + M'.d.C.length≤M.m + M.d.C.length + 600∧Hold W db lb vb V M' L' w'∧V.s = s∧V.nu = nu∧(∀ y ∈ M'.own db,y ∈ M.own db ∨ w.heap.size≤y)∧(∀ y ∈ L'.own lb,w.heap.size≤y)∧w.heap.size≤vb
 g:GrX (M.own db) w w'
set_option maxRecDepth 100000 in
set_option maxHeartbeats 3200000 in
theorem vformat_of {G:List Nat} {E:Nat→Addr} {W:World} (w:World) (hE:EAt G E W) (gW:Gr W w) (i0:4 ∈ G) (nu:Nat) (hnu:nu < 7) {db:Nat} {M:DskM} (hD:DskAt w db M) (hMW:∀ b ∈ M.own db,W.heap.size≤b)
 (hf:∀ w1 a c,Gr w w1→DskAt w1 db M→BytesAt w1 a (snapB vot0)→(a = none→c = 0)→(∀ x,a = some x→x.block < w1.heap.size∧x.block ∉ M.own db)→Calls Tryz.prog 35 #[.pointer (some ⟨db,0,none⟩),.slice a (snapB vot0).length c] w1 (FmtP W E db (snapB vot0) M w1)) :
 Calls Tryz.prog 12 #[.pointer (some ⟨db,0,none⟩),.int .i64 nu] w (VopP W db nu vot0 (putD (claimD M.d (fmtT M.d + 1)) (firstD M.d (fmtS M.d)) (frR (fmtR M.d (snapB vot0)))).flush (fmtL M.d (snapB vot0)) M w):=by
 obtain ⟨P,hP⟩:∃ P,P = VopP W db nu vot0 (putD (claimD M.d (fmtT M.d + 1)) (firstD M.d (fmtS M.d)) (frR (fmtR M.d (snapB vot0)))).flush (fmtL M.d (snapB vot0)) M w:=⟨_,rfl⟩
 rw [← hP];replace hP:=Lib.hid hP;have hg:=goodn_any nu w;rw [decide_eq_true (by omega)] at hg;have hsb:=fun w1 (g:Gr w w1) => sbytes_yes (K:=Any) w1 ((hE.gr gW).gr g) i0 vot0 vot0_ok none 0 [] rfl (LedM.nil _ _ _)
 obtain ⟨bl,hbl⟩:∃ bl,bl = (snapB vot0).length:=⟨_,rfl⟩
 rw [← hbl] at hsb hf;replace hsb:∀ w1,Gr w w1→Calls Tryz.prog 34 #[.agg #[.int .i64 0,.int .i64 0,.int .i64 0,.int .i64 0,.slice none 0 0,.int .i64 0]] w1 fun r w' => ∃ a c,r = .returned (.tuple #[.slice a bl c,.nilIface])∧Own w1 w' a c (snapB vot0):=hsb
 replace hsb:=Lib.hid hsb;replace hf:=Lib.hid hf;replace hg:=Lib.hid hg;replace hbl:=Lib.hid hbl;replace hE:=Lib.hid hE;go_enter Tryz.func12,Tryz.ntmps12;go_wp2_with fail;refine hg.out.mono ?_;rintro q w0 ⟨rfl,hw0⟩;rw [← hw0];clear hw0;go_wp2_with fail;refine (hsb.out _ (Gr.refl w)).mono ?_;rintro q w1 ⟨a1,c1,rfl,ho1⟩;have g1:=ho1.2.2.2.2;have hD1:=hD.gr g1;have hfm:=hf.out w1 a1 c1 g1 hD1 ho1.2.1 ho1.2.2.1 (fun x hx => ⟨ho1.lt hx,fun hm => by have:=hD.lt _ hm;have:=ho1.2.2.2.1 x hx;omega⟩);replace ho1:=Lib.hid ho1;replace hfm:=Lib.hid hfm;go_wp2_with fail;refine hfm.out.mono ?_;rintro q w2 hq;obtain ⟨lb,M2,L2,rfl,hd2,hl2,hm2,hD2,hL2,ho2,ho3⟩:=hq.x;have g2:=hq.g;have gf:GrX (M.own db) w w2:=(g1.x _).trans g2;have gW2:Gr W w2:=GrX.all gW gf hMW;have hown:∀ b ∈ M2.own db ++ L2.own lb,b < w2.heap.size:=fun b hb => by
  rcases List.mem_append.1 hb with hb | hb
  ·exact hD2.lt b hb
  ·exact hL2.lt b hb
 have hW:=gW.size;have z2:=gf.size;replace hq:=Lib.hid hq;replace hd2:=Lib.hid hd2;replace hl2:=Lib.hid hl2;replace hm2:=Lib.hid hm2;replace hD2:=Lib.hid hD2;replace hL2:=Lib.hid hL2;replace ho2:=Lib.hid ho2;replace ho3:=Lib.hid ho3;replace hown:=Lib.hid hown;go_wp2_with fail;rw [hP.out];refine ⟨⟨w2.heap.size,lb,⟨vot0,none,0,[],nu⟩,M2,L2,rfl,hd2.out,hl2.out,hm2.out,⟨hD2.out.gr ((Gr.refl w2).alloc _),fun b hb => ?_,hL2.out.gr ((Gr.refl w2).alloc _),⟨Blk.new w2 _ _,rfl,LedM.nil _ _ _,fun _ => rfl,Nat.le_refl _,vot0_ok,gW2.size,fun hm => ?_⟩,gW2.alloc _⟩,rfl,rfl,fun y hy => ?_,fun y hy => ?_,gf.size⟩,gf.gr ((Gr.refl w2).alloc _)⟩
 ·rcases ho2.out b hb with h | h
  ·exact hMW b h
  ·have:=g1.size;omega
 ·have:=hown.out _ hm;omega
 ·rcases ho2.out y hy with h | h
  ·exact .inl h
  ·right;have:=g1.size;omega
 ·have:=ho3.out y hy;have:=g1.size;omega
end Go.Proofs.YteigofaccjaobaaGreatDoor
