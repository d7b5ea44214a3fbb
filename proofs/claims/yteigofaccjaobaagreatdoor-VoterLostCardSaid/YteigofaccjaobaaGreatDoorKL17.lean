/- Voter.Prepare, Claim. -/
import Derived.Test.YteigofaccjaobaaGreatDoorKL16
namespace Go.Proofs.YteigofaccjaobaaGreatDoor
open Go.RowKit
def badE (E:Nat→Addr) (V:VotM) (b:Bal):Value:=if balB b = true then (if aboveB ⟨V.s.pr,V.s.pn⟩ b = true then (Value.iface 297 (.pointer (some (E 6)))) else .nilIface) else numE E
def mayB (V:VotM) (b:Bal):Bool:=balB b && !aboveB ⟨V.s.pr,V.s.pn⟩ b
theorem may_yes {E:Nat→Addr} {V:VotM} {b:Bal} (h:mayB V b = true):badE E V b = .nilIface:=by
 unfold mayB at h;rw [Bool.and_eq_true,Bool.not_eq_true'] at h;unfold badE;rw [if_pos h.1,if_neg (by rw [h.2];decide)]
theorem may_no {E:Nat→Addr} {V:VotM} {b:Bal} (h:mayB V b = false):badE E V b = numE E ∨ badE E V b = (Value.iface 297 (.pointer (some (E 6)))):=by
 unfold badE;by_cases h1:balB b = true
 ·rw [if_pos h1];unfold mayB at h;rw [h1,Bool.true_and,Bool.not_eq_false'] at h;rw [if_pos h];exact .inr rfl
 ·rw [if_neg h1];exact .inl rfl
set_option maxRecDepth 100000 in
set_option maxHeartbeats 6400000 in
theorem prep_no {G:List Nat} {E:Nat→Addr} {W:World} (w:World) (hE:EAt G E w) (i5:1 ∈ G) (i8:6 ∈ G) {vb lb:Nat} {own:List Nat} {V:VotM} (h:VotAt W w vb lb own V) (b:Bal) (hm:mayB V b = false) :
 Calls Tryz.prog 13 #[.pointer (some ⟨vb,0,none⟩),.agg #[.int .i64 b.r,.int .i64 b.n]] w fun e w' => (∃ g,badE E V b = errAt E g∧e = .returned (.tuple #[.agg #[.int .i64 0,.int .i64 0],.slice none 0 0,errAt E g]))∧Gr w w':=by
 obtain ⟨g,hg⟩:∃ g,badE E V b = errAt E g:=by
  rcases may_no (E:=E) hm with h1 | h1
  ·exact ⟨_,h1⟩
  ·exact ⟨_,h1⟩
 obtain ⟨wa,hwa⟩:∃ wa,wa = w.alloc (.cells #[.int .i64 b.r,.int .i64 b.n] 23):=⟨_,rfl⟩
 obtain ⟨w0,hw0⟩:∃ w0,w0 = wa.alloc (.cells #[.int .i64 0,.int .i64 0] 23):=⟨_,rfl⟩
 have ga:Gr w wa:=by rw [hwa];exact (Gr.refl w).alloc _
 have gb:Gr wa w0:=by rw [hw0];exact (Gr.refl wa).alloc _
 have g0:=ga.trans gb;have hsa:wa.heap.size = w.heap.size + 1:=by rw [hwa];simp
 have hp0:Blk w0 w.heap.size #[.int .i64 b.r,.int .i64 b.n] 23:=Blk.gr (by rw [hwa];exact Blk.new _ _ _) gb;have hr0:Blk w0 (w.heap.size + 1) #[.int .i64 0,.int .i64 0] 23:=by rw [hw0,← hsa];exact Blk.new _ _ _
 have hma:Calls Tryz.prog 36 #[.pointer (some ⟨vb,0,none⟩),.agg #[.int .i64 b.r,.int .i64 b.n]] w0 fun e w' => e = .returned (badE E V b)∧Gr w0 w':=may_any w0 (hE.gr g0) i5 i8 (h.gr g0) b
 rw [hg] at hma;have p0:=hp0.cell (i:=0) (v:=.int .i64 b.r) rfl;have p1:=hp0.cell (i:=1) (v:=.int .i64 b.n) rfl;have pz:=hp0.lt;replace hma:=Lib.hid hma;replace h:=Lib.hid h;replace hE:=Lib.hid hE;replace hg:=Lib.hid hg;go_enter Tryz.func13,Tryz.ntmps13;go_wp2_with fail;rw [← hwa,← hw0];refine hma.out.mono ?_;rintro q w1 ⟨rfl,g1⟩;have hr1:=hr0.gr g1;have q0:=hr1.cell (i:=0) (v:=.int .i64 0) rfl;have q1:=hr1.cell (i:=1) (v:=.int .i64 0) rfl;have qf0:=hr1.free 0;have qf1:=hr1.free 1;have qz:=hr1.lt;go_wp2_with fail;have hrf:=(hr1.set 0 (.int .i64 0)).set 1 (.int .i64 0);have gw1:=g0.trans g1;have gf:Gr w ((w1.setCell ⟨w.heap.size + 1,0,none⟩ (.int .i64 0)).setCell ⟨w.heap.size + 1,1,none⟩ (.int .i64 0)):=(gw1.setCell (Nat.le_succ _) _).setCell (Nat.le_succ _) _;refine bodyPost_ret (v:=.tuple #[.agg #[.int .i64 0,.int .i64 0],.slice none 0 0,errAt E g]) ?_ rfl ⟨⟨g,hg.out,rfl⟩,gf⟩;exact (res_cell3 (b:=w.heap.size + 1) (t:=23) Tryz.results13 _ _ hrf rfl Tryz.underlying23 (by kernel_rfl)).trans rfl
theorem bal_neq (a b c d:Int) (w:World):(binOp .neq 23 (.agg #[.int .i64 a,.int .i64 b]) (.agg #[.int .i64 c,.int .i64 d])).run Tryz.prog w = .ok (.bool (!decide (a = c∧b = d))) w:=by
 by_cases h1:a = c <;> by_cases h2:b = d <;> simp [go_sem,h1,h2]
set_option maxRecDepth 100000 in
set_option maxHeartbeats 6400000 in
theorem prep_same {G:List Nat} {E:Nat→Addr} {W:World} (w:World) (hE:EAt G E w) (i5:1 ∈ G) (i8:6 ∈ G) {vb lb:Nat} {own:List Nat} {V:VotM} (h:VotAt W w vb lb own V) (b:Bal) (hm:mayB V b = true) (hs1:(V.s.pr:Int) = b.r) (hs2:(V.s.pn:Int) = b.n) :
 Calls Tryz.prog 13 #[.pointer (some ⟨vb,0,none⟩),.agg #[.int .i64 b.r,.int .i64 b.n]] w fun e w' => (∃ a c L,e = .returned (.tuple #[.agg #[.int .i64 V.s.ar,.int .i64 V.s.an],.slice a V.s.l.length c,.nilIface])∧Ents L = V.s.l∧LedM (fun b => w.heap.size≤b) w' a L∧(a = none→c = 0)∧V.s.l.length≤c)∧Gr w w':=by
 have hl64:=(ledF_iff.1 h.ok.2).1;have hVL:V.L.length = V.s.l.length:=by rw [← h.e,List.length_map]
 obtain ⟨wa,hwa⟩:∃ wa,wa = w.alloc (.cells #[.int .i64 b.r,.int .i64 b.n] 23):=⟨_,rfl⟩
 obtain ⟨w0,hw0⟩:∃ w0,w0 = wa.alloc (.cells #[.int .i64 0,.int .i64 0] 23):=⟨_,rfl⟩
 have ga:Gr w wa:=by rw [hwa];exact (Gr.refl w).alloc _
 have gb:Gr wa w0:=by rw [hw0];exact (Gr.refl wa).alloc _
 have g0:=ga.trans gb;have hsa:wa.heap.size = w.heap.size + 1:=by rw [hwa];simp
 have hp0:Blk w0 w.heap.size #[.int .i64 b.r,.int .i64 b.n] 23:=Blk.gr (by rw [hwa];exact Blk.new _ _ _) gb;have hr0:Blk w0 (w.heap.size + 1) #[.int .i64 0,.int .i64 0] 23:=by rw [hw0,← hsa];exact Blk.new _ _ _
 have hma:Calls Tryz.prog 36 #[.pointer (some ⟨vb,0,none⟩),.agg #[.int .i64 b.r,.int .i64 b.n]] w0 fun e w' => e = .returned (badE E V b)∧Gr w0 w':=may_any w0 (hE.gr g0) i5 i8 (h.gr g0) b
 rw [may_yes hm] at hma;have hbq:=fun w => bal_neq V.s.pr V.s.pn b.r b.n w
 rw [decide_eq_true ⟨hs1,hs2⟩] at hbq;have p0:=hp0.cell (i:=0) (v:=.int .i64 b.r) rfl;have p1:=hp0.cell (i:=1) (v:=.int .i64 b.n) rfl;have pz:=hp0.lt;replace hma:=Lib.hid hma;replace h:=Lib.hid h;replace hE:=Lib.hid hE;replace hs1:=Lib.hid hs1;replace hs2:=Lib.hid hs2;go_enter Tryz.func13,Tryz.ntmps13;go_wp2_with fail;rw [← hwa,← hw0];refine hma.out.mono ?_;rintro q w1 ⟨rfl,g1⟩;have h1:=h.out.gr (g0.trans g1);have d0:=h1.b.cell (i:=0) (v:=.int .i64 V.s.pr) rfl;have d1:=h1.b.cell (i:=1) (v:=.int .i64 V.s.pn) rfl;have d2:=h1.b.cell (i:=2) (v:=.int .i64 V.s.ar) rfl;have d3:=h1.b.cell (i:=3) (v:=.int .i64 V.s.an) rfl;have d4:=h1.b.cell (i:=4) (v:=.slice V.a V.s.l.length V.c) rfl;have d5:=h1.b.cell (i:=5) (v:=.int .i64 V.s.cl) rfl;have d6:=h1.b.cell (i:=6) (v:=.int .i64 V.nu) rfl;have d7:=h1.b.cell (i:=7) (v:=.pointer (some ⟨lb,0,none⟩)) rfl;have dz:=h1.b.lt;have hp1:=hp0.gr g1;have r0:=hp1.cell (i:=0) (v:=.int .i64 b.r) rfl;have r1:=hp1.cell (i:=1) (v:=.int .i64 b.n) rfl;have rz:=hp1.lt;clear p0 p1 pz;have k0:=GrW.cell d0;have k1:=GrW.cell d1;have k2:=GrW.cell r0;have k3:=GrW.cell r1;replace h1:=Lib.hid h1;go_upto_region 4 with fail
 refine wp_region_grows (by kernel_rfl) (by kernel_rfl) ?_;repeat (any_goals (first | go_big_quiet_step (first | fail) | quiet_step (first | fail)))
 refine wpQuiet_nil ?_;intro wz hwq;have gz:=GrW.of hwq;clear hwq;obtain ⟨cz,fz,sz⟩:=gz.cells;try simp only [size_drewN] at cz fz sz
 try simp only [World.size_alloc] at cz fz sz
 try simp only [World.size_drew] at cz fz sz
 try simp only [World.size_setCell] at cz fz sz
 have hVR:=h1.out.gr gz;clear k0 k1 k2 k3 d0 d1 d2 d3 d4 d5 d6 d7 dz;have d0:=hVR.b.cell (i:=0) (v:=.int .i64 V.s.pr) rfl;have d1:=hVR.b.cell (i:=1) (v:=.int .i64 V.s.pn) rfl;have d2:=hVR.b.cell (i:=2) (v:=.int .i64 V.s.ar) rfl;have d3:=hVR.b.cell (i:=3) (v:=.int .i64 V.s.an) rfl;have d4:=hVR.b.cell (i:=4) (v:=.slice V.a V.s.l.length V.c) rfl;have d5:=hVR.b.cell (i:=5) (v:=.int .i64 V.s.cl) rfl;have d6:=hVR.b.cell (i:=6) (v:=.int .i64 V.nu) rfl;have d7:=hVR.b.cell (i:=7) (v:=.pointer (some ⟨lb,0,none⟩)) rfl;have dz:=hVR.b.lt;have hrR:=(hr0.gr g1).gr gz;have q0:=hrR.cell (i:=0) (v:=.int .i64 0) rfl;have q1:=hrR.cell (i:=1) (v:=.int .i64 0) rfl;have qf0:=hrR.free 0;have qf1:=hrR.free 1;have qz:=hrR.lt;go_wp2_with fail;have hcp:=fun w' (g:Gr wz w') => vcopied_any V.a V.c V.L w' ((hVR.m.gr g).mono fun _ _ _ => trivial) (by rw [hVL];omega)
 rw [hVL] at hcp;replace hcp:=Lib.hid hcp;replace hVR:=Lib.hid hVR;go_region_held3 (fun w' => w'.cell? ⟨vb,2,none⟩ = some (.int .i64 V.s.ar)∧w'.cell? ⟨vb,3,none⟩ = some (.int .i64 V.s.an)∧w'.cell? ⟨vb,4,none⟩ = some (.slice V.a V.s.l.length V.c)) (simp (maxDischargeDepth:=8) [go_sem, *])
  (first
   | (go_at_call 39;(with_reducible refine (hcp.out _ ?hg).mono ?_);(case hg => repeat (first | exact Gr.refl _ | refine Gr.alloc ?_ _ | refine Gr.drew ?_));rintro e wX ⟨aX,cX,LX,rfl,hmX,hMX,hnX,hcX1,hcX2,gX,-,-⟩;rw [hVL] at hcX1 ⊢;have hVX:=hVR.out.gr (((Gr.refl wz).drew).trans gX);have x2:=hVX.b.cell (i:=2) (v:=.int .i64 V.s.ar) rfl;have x3:=hVX.b.cell (i:=3) (v:=.int .i64 V.s.an) rfl;have x4:=hVX.b.cell (i:=4) (v:=.slice V.a V.s.l.length V.c) rfl;have hrX:=hrR.gr (((Gr.refl wz).drew).trans gX);have y0:=hrX.cell (i:=0) (v:=.int .i64 0) rfl;have y1:=hrX.cell (i:=1) (v:=.int .i64 0) rfl;have yf0:=hrX.free 0;have yf1:=hrX.free 1;have yz:=hrX.lt;have vz:=hVX.b.lt;replace hVX:=Lib.hid hVX)
   | fail)
 have gRX:Gr wz wX:=((Gr.refl wz).drew).trans gX;have hrX:=hrR.gr gRX;have hrf:=(hrX.set 0 (.int .i64 V.s.ar)).set 1 (.int .i64 V.s.an);have gs:GrX [w.heap.size + 1] wX ((wX.setCell ⟨w.heap.size + 1,0,none⟩ (.int .i64 V.s.ar)).setCell ⟨w.heap.size + 1,1,none⟩ (.int .i64 V.s.an)):=((GrX.refl [w.heap.size + 1] wX).set (p:=⟨w.heap.size + 1,0,none⟩) (.inl (by simp)) _).set (p:=⟨w.heap.size + 1,1,none⟩) (.inl (by simp)) _;obtain ⟨wf,hwf⟩:∃ wf,wf = ((wX.setCell ⟨w.heap.size + 1,0,none⟩ (.int .i64 V.s.ar)).setCell ⟨w.heap.size + 1,1,none⟩ (.int .i64 V.s.an)):=⟨_,rfl⟩
 rw [← hwf] at hrf gs ⊢;have zR2:w.heap.size + 1 < wz.heap.size:=hrR.lt;have hEX:Ents LX = V.s.l:=hmX.trans hVR.out.e;have hMX2:LedM (fun b => w.heap.size≤b) wf aX LX:=(hMX.grx gs (fun y hy hk => by rw [List.mem_singleton.1 hy] at hk;simp only [World.size_drew] at hk;omega)).mono (fun b _ hk => by simp only [World.size_drew] at hk;omega);have hfin:Gr w wf:=GrX.all (((g0.trans g1).trans gz).trans gRX) gs (fun x hx => by rw [List.mem_singleton.1 hx];omega);replace hMX2:=Lib.hid hMX2;replace hrf:=Lib.hid hrf;clear gs hwf;go_wp2_with fail;refine bodyPost_ret (v:=.tuple #[.agg #[.int .i64 V.s.ar,.int .i64 V.s.an],.slice aX V.s.l.length cX,.nilIface]) ?_ rfl ⟨⟨aX,cX,LX,rfl,hEX,hMX2.out,hnX,hcX1⟩,hfin⟩;exact (res_cell3 (b:=w.heap.size + 1) (t:=23) Tryz.results13 _ _ hrf.out rfl Tryz.underlying23 (by kernel_rfl)).trans rfl
theorem Blk.none {w:World} {b:Nat} {cs:Array Value} {t:TypeId} (h:Blk w b cs t) {o:Nat} (ho:cs.size≤o):w.cell? ⟨b,o,none⟩ = none:=by
 unfold Blk at h;rw [World.cell?];simp [h];omega
theorem LedM.away {K:Nat→Prop} {w:World} {a:Option Addr} {L:List EntM} {rb:Nat} {x y:Value} {t:TypeId} (h:LedM K w a L) (hb:Blk w rb #[x,y] t):LedM (fun b => K b∧b ≠ rb) w a L:=by
 refine ⟨⟨h.1.1,fun ad ha hne => ⟨h.1.2 ad ha hne,fun e => ?_⟩⟩,fun z hz => ?_⟩
 ·obtain ⟨e0,r,rfl⟩:=List.exists_cons_of_ne_nil hne;obtain ⟨b,off,h1,-,hc⟩:=h.1.1 0 e0 rfl;have h8:=hc 9 (.int .i64 e0.e.at_) rfl;rw [h1] at ha;have:b = rb:=by rw [← e,← Option.some.inj ha]
  rw [this,hb.none (by simp)] at h8;cases h8
 ·have hzo:=h.2 z hz;refine ⟨⟨hzo.1.1,fun ad ha hne => ⟨hzo.1.2 ad ha hne,fun e => ?_⟩⟩,hzo.2⟩;obtain ⟨e0,r,hr⟩:=List.exists_cons_of_ne_nil hne;obtain ⟨b,off,h1,-,hc⟩:=hzo.1.1 0 e0 (by rw [hr];rfl);have h8:=hc 3 (.int .i64 e0.s) rfl;rw [h1] at ha;have:b = rb:=by rw [← e,← Option.some.inj ha]
  rw [this,hb.none (by simp)] at h8;cases h8
theorem Hold.res {W w w':World} {db lb vb rb:Nat} {V:VotM} {M:DskM} {L:LogM} {x y:Value} (h:Hold W db lb vb V M L w) (hb:Blk w rb #[x,y] 23) (g:GrX [rb] w w') (h1:∀ b ∈ M.own db ++ L.own lb,b ≠ rb) (h2:vb ≠ rb) (h3:W.heap.size≤rb):Hold W db lb vb V M L w' :=
 ⟨h.d.grx g (fun y hy => by simp;exact h1 y (List.mem_append_left _ hy)),h.mw,h.l.grx g (fun y hy => by simp;exact h1 y (List.mem_append_right _ hy)) (fun x hx y hy => by simp;exact fun e => owns_blk (h.l.r.d x hx).1 hb (by decide) (by rw [hy];show some y.block = some rb;rw [e])),⟨h.v.b.grx g (by simp;exact h2),h.v.e,((h.v.m.away hb).grx g (fun y hy hk => hk.2 (List.mem_singleton.1 hy))).mono (fun b _ hk => hk.1),h.v.n,h.v.c,h.v.ok,h.v.lo,h.v.ap⟩,GrX.all h.g g (fun y hy => by rw [List.mem_singleton.1 hy];exact h3)⟩
theorem aocE_cases (E:Nat→Addr) (d:DskV) (v:LogV) (sb b:List UInt8):aocE d v sb b = 0 ∨ ∃ g,aocE d v sb b ≠ 0∧eV E (aocE d v sb b) = errAt E g:=by
 have key:∀ k,(k = 7 ∨ k = 8 ∨ k = 9)→∃ g,k ≠ 0∧eV E k = errAt E g:=fun k hk => by
  rcases hk with rfl | rfl | rfl
  ·exact ⟨_,by decide,rfl⟩
  ·exact ⟨_,by decide,rfl⟩
  ·exact ⟨_,by decide,rfl⟩
 unfold aocE;by_cases h7:appE d v b = 7
 ·rw [if_pos h7];by_cases h0:chkE d v sb = 0
  ·rw [if_pos h0];rcases appE_cases (chkD d v sb) (chkL d v sb) b with ⟨h,_⟩ | h
   ·exact .inl h
   ·exact .inr (key _ h)
  ·rw [if_neg h0];rcases chkE_cases d v sb with ⟨h,_⟩ | h
   ·exact absurd h h0
   ·exact .inr (key _ h)
 ·rw [if_neg h7];rcases appE_cases d v b with ⟨h,_⟩ | h
  ·exact .inl h
  ·exact .inr (key _ h)
theorem nats3 (w:World) (a b c:Nat):RecsAt 1 natC (w.alloc (.cells #[.int .i64 a,.int .i64 b,.int .i64 c] 3)) (some ⟨w.heap.size,0,none⟩) [a,b,c]:=recs_alloc natC_len w [a,b,c] _ _ rfl
set_option maxRecDepth 100000 in
set_option maxHeartbeats 12800000 in
theorem prep_new {G:List Nat} {E:Nat→Addr} {W:World} (w:World) (hE:EAt G E W) (i0:4 ∈ G) (i4:0 ∈ G) (i5:1 ∈ G) (i3:5 ∈ G) (i6:2 ∈ G) (i8:6 ∈ G) {db lb vb:Nat} {V:VotM} {M:DskM} {L:LogM} (h:Hold W db lb vb V M L w) (hC:M.m + M.d.C.length≤880000) (h4:4≤M.d.n) (b:Bal) (r m:Nat) (hbr:b.r = r) (hbm:b.n = m) (hm:mayB V b = true) (hs:¬ ((V.s.pr:Int) = b.r∧(V.s.pn:Int) = b.n)) :
 Calls Tryz.prog 13 #[.pointer (some ⟨vb,0,none⟩),.agg #[.int .i64 b.r,.int .i64 b.n]] w fun e w' => ∃ M' L' V' own,M'.d = wrtD M.d L.v (snapB V.s) (vrB [1,r,m] none)∧L'.v = aocL M.d L.v (snapB V.s) (vrB [1,r,m] none)∧Hold W db lb vb V' M' L' w'∧own = M.own db ++ L.own lb∧(∀ b ∈ M'.own db ++ L'.own lb,b ∈ own ∨ w.heap.size≤b)∧M'.m + M'.d.C.length≤M.m + M.d.C.length + 3000∧GrX (vb :: own) w w'∧V'.nu = V.nu ∧
  ((aocE M.d L.v (snapB V.s) (vrB [1,r,m] none) = 0∧V'.s = {V.s with pr:=r,pn:=m}∧∃ a c Lc,e = .returned (.tuple #[.agg #[.int .i64 V.s.ar,.int .i64 V.s.an],.slice a V.s.l.length c,.nilIface])∧Ents Lc = V.s.l∧LedM (fun b => w.heap.size≤b) w' a Lc∧(a = none→c = 0)∧V.s.l.length≤c)
   ∨ (∃ g,aocE M.d L.v (snapB V.s) (vrB [1,r,m] none) ≠ 0∧eV E (aocE M.d L.v (snapB V.s) (vrB [1,r,m] none)) = errAt E g∧V'.s = V.s∧e = .returned (.tuple #[.agg #[.int .i64 0,.int .i64 0],.slice none 0 0,errAt E g]))):=by
 obtain ⟨B,hB⟩:∃ B,B = vrB [1,r,m] none:=⟨_,rfl⟩
 rw [← hB];replace hB:=Lib.hid hB;obtain ⟨bl,hbl⟩:∃ bl,bl = B.length:=⟨_,rfl⟩
 replace hbl:=Lib.hid hbl;have hleg:1≤b.r∧b.r≤1099511627776∧0≤b.n∧b.n≤6:=by
  unfold mayB at hm;rw [Bool.and_eq_true] at hm;exact of_decide_eq_true hm.1
 obtain ⟨hl1,hl2,hl3,hl4⟩:=hleg;have hr40:r≤1099511627776:=by omega
 have hm40:m≤1099511627776:=by omega
 obtain ⟨wa,hwa⟩:∃ wa,wa = w.alloc (.cells #[.int .i64 b.r,.int .i64 b.n] 23):=⟨_,rfl⟩
 obtain ⟨w0,hw0⟩:∃ w0,w0 = wa.alloc (.cells #[.int .i64 0,.int .i64 0] 23):=⟨_,rfl⟩
 have ga:Gr w wa:=by rw [hwa];exact (Gr.refl w).alloc _
 have gb:Gr wa w0:=by rw [hw0];exact (Gr.refl wa).alloc _
 have g0:=ga.trans gb;have hsa:wa.heap.size = w.heap.size + 1:=by rw [hwa];simp
 have hp0:Blk w0 w.heap.size #[.int .i64 b.r,.int .i64 b.n] 23:=Blk.gr (by rw [hwa];exact Blk.new _ _ _) gb;have hr0:Blk w0 (w.heap.size + 1) #[.int .i64 0,.int .i64 0] 23:=by rw [hw0,← hsa];exact Blk.new _ _ _
 have hma:Calls Tryz.prog 36 #[.pointer (some ⟨vb,0,none⟩),.agg #[.int .i64 b.r,.int .i64 b.n]] w0 fun e w' => e = .returned (badE E V b)∧Gr w0 w':=may_any w0 (hE.gr (h.g.trans g0)) i5 i8 (h.v.gr g0) b
 rw [may_yes hm] at hma;have hbq:=fun w => bal_neq V.s.pr V.s.pn b.r b.n w
 rw [decide_eq_false hs] at hbq;rw [hbr,hbm] at hbq hma hp0 ⊢;have p0:=hp0.cell (i:=0) (v:=.int .i64 r) rfl;have p1:=hp0.cell (i:=1) (v:=.int .i64 m) rfl;have pz:=hp0.lt;rw [hbr,hbm] at hwa;replace hma:=Lib.hid hma;replace h:=Lib.hid h;replace hE:=Lib.hid hE;replace hs:=Lib.hid hs;go_enter Tryz.func13,Tryz.ntmps13;go_wp2_with fail;rw [← hwa,← hw0];refine hma.out.mono ?_;rintro q w1 ⟨rfl,g1⟩;have h1:=h.out.gr (g0.trans g1);have d0:=h1.v.b.cell (i:=0) (v:=.int .i64 V.s.pr) rfl;have d1:=h1.v.b.cell (i:=1) (v:=.int .i64 V.s.pn) rfl;have d2:=h1.v.b.cell (i:=2) (v:=.int .i64 V.s.ar) rfl;have d3:=h1.v.b.cell (i:=3) (v:=.int .i64 V.s.an) rfl;have d4:=h1.v.b.cell (i:=4) (v:=.slice V.a V.s.l.length V.c) rfl;have d5:=h1.v.b.cell (i:=5) (v:=.int .i64 V.s.cl) rfl;have d6:=h1.v.b.cell (i:=6) (v:=.int .i64 V.nu) rfl;have d7:=h1.v.b.cell (i:=7) (v:=.pointer (some ⟨lb,0,none⟩)) rfl;have dz:=h1.v.b.lt;have hp1:=hp0.gr g1;have r0:=hp1.cell (i:=0) (v:=.int .i64 r) rfl;have r1:=hp1.cell (i:=1) (v:=.int .i64 m) rfl;have rz:=hp1.lt;clear p0 p1 pz;have k0:=GrW.cell d0;have k1:=GrW.cell d1;have k2:=GrW.cell r0;have k3:=GrW.cell r1;replace h1:=Lib.hid h1;go_upto_region 4 with fail
 refine wp_region_grows (by kernel_rfl) (by kernel_rfl) ?_;repeat (any_goals (first | go_big_quiet_step (first | fail) | quiet_step (first | fail)))
 refine wpQuiet_nil ?_;intro wz hwq;have gz:=GrW.of hwq;clear hwq;obtain ⟨cz,fz,sz⟩:=gz.cells;try simp only [size_drewN] at cz fz sz
 try simp only [World.size_alloc] at cz fz sz
 try simp only [World.size_drew] at cz fz sz
 try simp only [World.size_setCell] at cz fz sz
 have h2:=h1.out.gr gz;clear k0 k1 k2 k3 d0 d1 d2 d3 d4 d5 d6 d7 dz r0 r1 rz;have d0:=h2.v.b.cell (i:=0) (v:=.int .i64 V.s.pr) rfl;have d1:=h2.v.b.cell (i:=1) (v:=.int .i64 V.s.pn) rfl;have d2:=h2.v.b.cell (i:=2) (v:=.int .i64 V.s.ar) rfl;have d3:=h2.v.b.cell (i:=3) (v:=.int .i64 V.s.an) rfl;have d4:=h2.v.b.cell (i:=4) (v:=.slice V.a V.s.l.length V.c) rfl;have d5:=h2.v.b.cell (i:=5) (v:=.int .i64 V.s.cl) rfl;have d6:=h2.v.b.cell (i:=6) (v:=.int .i64 V.nu) rfl;have d7:=h2.v.b.cell (i:=7) (v:=.pointer (some ⟨lb,0,none⟩)) rfl;have dz:=h2.v.b.lt;have hp2:=hp1.gr gz;have r0:=hp2.cell (i:=0) (v:=.int .i64 r) rfl;have r1:=hp2.cell (i:=1) (v:=.int .i64 m) rfl;have rz:=hp2.lt;obtain ⟨wn,hwn⟩:∃ wn,wn = wz.alloc (.cells #[.int .i64 1,.int .i64 r,.int .i64 m] 3):=⟨_,rfl⟩
 have gn:Gr wz wn:=by rw [hwn];exact (Gr.refl wz).alloc _
 have hrc:=record_no wn (some ⟨wz.heap.size,0,none⟩) 3 [1,r,m] (by rw [hwn];exact nats3 wz 1 r m) (by simp;omega) (by simp);have gw2:Gr w wz:=(g0.trans g1).trans gz;rw [← hB.out,← hbl.out] at hrc;replace hrc:Calls Tryz.prog 37 #[.slice (some ⟨wz.heap.size,0,none⟩) 3 3,.slice none 0 0,.bool false] wn fun q w' => ∃ a c,q = .returned (.tuple #[.slice a bl c,.nilIface])∧Own wn w' a c B:=hrc
 replace hrc:=Lib.hid hrc;replace h2:=Lib.hid h2;go_wp2_with fail;rw [← hwn];refine hrc.out.mono ?_;rintro q w3 ⟨a3,c3,rfl,ho3⟩;have h3:=(h2.out.gr gn).gr ho3.2.2.2.2;have hb3:=h2.out.own_byt gn ho3;have gw3:Gr w w3:=(gw2.trans gn).trans ho3.2.2.2.2;have hvok:=h3.v.ok;have hve:=h3.v.e;have hvn:=h3.v.n;have hvc:=h3.v.c;have hwr:=write_any w3 hE.out i0 i4 i5 i3 i6 h3 (by omega) h4 a3 c3 B hb3 {V.s with pr:=r,pn:=m} ⟨⟨hr40,hm40,hvok.1.2.2.1,hvok.1.2.2.2.1,hvok.1.2.2.2.2⟩,hvok.2⟩ (fun w1 gW1 hS1 hM1 => by
  rw [hB.out] at hS1 ⊢;refine (done_p w1 a3 c3 V.s V.a V.s.l.length V.c r m hr40 hm40 hS1 hb3.n).mono ?_;rintro e w' ⟨rfl,g⟩;exact ⟨V.a,V.c,V.L,rfl,hve,.inr ⟨rfl,rfl⟩,hvn,hvc,g⟩)
 rw [← hbl.out] at hwr;clear d0 d1 d2 d3 d4 d5 d6 d7 dz r0 r1 rz hvok hve hvn hvc;have d0:=h3.v.b.cell (i:=0) (v:=.int .i64 V.s.pr) rfl;have d1:=h3.v.b.cell (i:=1) (v:=.int .i64 V.s.pn) rfl;have d2:=h3.v.b.cell (i:=2) (v:=.int .i64 V.s.ar) rfl;have d3:=h3.v.b.cell (i:=3) (v:=.int .i64 V.s.an) rfl;have d4:=h3.v.b.cell (i:=4) (v:=.slice V.a V.s.l.length V.c) rfl;have d5:=h3.v.b.cell (i:=5) (v:=.int .i64 V.s.cl) rfl;have d6:=h3.v.b.cell (i:=6) (v:=.int .i64 V.nu) rfl;have d7:=h3.v.b.cell (i:=7) (v:=.pointer (some ⟨lb,0,none⟩)) rfl;have dz:=h3.v.b.lt;replace hwr:=Lib.hid hwr;replace h3:=Lib.hid h3;replace hb3:=Lib.hid hb3;replace ho3:=Lib.hid ho3;go_wp2_with fail;refine hwr.out.mono ?_;rintro q w4 ⟨M4,L4,V4,rfl,hd4,hl4,hs4,hn4,h4',ho4,hm4,hg4⟩;have hown:∀ x ∈ vb :: (M.own db ++ L.own lb),x < w.heap.size:=fun x hx => by
  rcases List.mem_cons.1 hx with rfl | hx
  ·exact h.out.v.b.lt
  ·exact h.out.own_lt x hx
 have gf4:GrX (vb :: (M.own db ++ L.own lb)) w w4:=(gw3.x _).trans hg4;have ho4':∀ x ∈ M4.own db ++ L4.own lb,x ∈ M.own db ++ L.own lb ∨ w.heap.size≤x:=fun x hx => by
  rcases ho4 x hx with h5 | h5
  ·exact .inl h5
  ·have:=gw3.size;right;omega
 have hr3:=(((hr0.gr g1).gr gz).gr gn).gr ho3.out.2.2.2.2;have hr3z:=hr3.lt;have hrR:=hr3.grx hg4 (fun hx => by have:=hown _ hx;omega);have hres:∀ x ∈ M4.own db ++ L4.own lb,x ≠ w.heap.size + 1:=fun x hx e => by
  rcases ho4 x hx with h5 | h5
  ·have:=hown x (List.mem_cons_of_mem _ h5);omega
  ·omega
 have hvz:=hown vb List.mem_cons_self;have hWz:=h.out.g.size;have z34:=hg4.size;clear d0 d1 d2 d3 d4 d5 d6 d7 dz;replace hd4:=Lib.hid hd4;replace hl4:=Lib.hid hl4;replace hn4:=Lib.hid hn4;replace ho4:=Lib.hid ho4;replace ho4':=Lib.hid ho4';replace hm4:=Lib.hid hm4;replace hg4:=Lib.hid hg4;replace gf4:=Lib.hid gf4;replace hown:=Lib.hid hown;replace hres:=Lib.hid hres;replace hr3:=Lib.hid hr3;rcases aocE_cases E M.d L.v (snapB V.s) B with hz | ⟨g,hz,hg⟩
 ·have hq:eV E (aocE M.d L.v (snapB V.s) B) = .nilIface:=by rw [hz];rfl
  have hs4':V4.s = {V.s with pr:=r,pn:=m}:=by rw [hs4,if_pos hz]
  rw [hq];have hVR:=h4'.v;have hVL:V4.L.length = V4.s.l.length:=by rw [← hVR.e,List.length_map]
  have hl64:=(ledF_iff.1 hVR.ok.2).1;have d0:=hVR.b.cell (i:=0) (v:=.int .i64 V4.s.pr) rfl;have d1:=hVR.b.cell (i:=1) (v:=.int .i64 V4.s.pn) rfl;have d2:=hVR.b.cell (i:=2) (v:=.int .i64 V4.s.ar) rfl;have d3:=hVR.b.cell (i:=3) (v:=.int .i64 V4.s.an) rfl;have d4:=hVR.b.cell (i:=4) (v:=.slice V4.a V4.s.l.length V4.c) rfl;have d5:=hVR.b.cell (i:=5) (v:=.int .i64 V4.s.cl) rfl;have d6:=hVR.b.cell (i:=6) (v:=.int .i64 V4.nu) rfl;have d7:=hVR.b.cell (i:=7) (v:=.pointer (some ⟨lb,0,none⟩)) rfl;have dz:=hVR.b.lt;have q0:=hrR.cell (i:=0) (v:=.int .i64 0) rfl;have q1:=hrR.cell (i:=1) (v:=.int .i64 0) rfl;have qf0:=hrR.free 0;have qf1:=hrR.free 1;have qz:=hrR.lt;replace h4':=Lib.hid h4';replace hs4:=Lib.hid hs4;replace hs4':=Lib.hid hs4';replace hz:=Lib.hid hz;replace hq:=Lib.hid hq;go_wp2_with fail;have hcp:=fun w' (g:Gr w4 w') => vcopied_any V4.a V4.c V4.L w' ((hVR.m.gr g).mono fun _ _ _ => trivial) (by rw [hVL];omega)
  rw [hVL] at hcp;replace hcp:=Lib.hid hcp;replace hVR:=Lib.hid hVR;go_region_held3 (fun w' => w'.cell? ⟨vb,2,none⟩ = some (.int .i64 V4.s.ar)∧w'.cell? ⟨vb,3,none⟩ = some (.int .i64 V4.s.an)∧w'.cell? ⟨vb,4,none⟩ = some (.slice V4.a V4.s.l.length V4.c)) (simp (maxDischargeDepth:=8) [go_sem, *])
   (first
    | (go_at_call 39;(with_reducible refine (hcp.out _ ?hg).mono ?_);(case hg => repeat (first | exact Gr.refl _ | refine Gr.alloc ?_ _ | refine Gr.drew ?_));rintro e wX ⟨aX,cX,LX,rfl,hmX,hMX,hnX,hcX1,hcX2,gX,-,-⟩;rw [hVL] at hcX1 ⊢;have hVX:=hVR.out.gr (((Gr.refl w4).drew).trans gX);have x2:=hVX.b.cell (i:=2) (v:=.int .i64 V4.s.ar) rfl;have x3:=hVX.b.cell (i:=3) (v:=.int .i64 V4.s.an) rfl;have x4:=hVX.b.cell (i:=4) (v:=.slice V4.a V4.s.l.length V4.c) rfl;have hrX:=hrR.gr (((Gr.refl w4).drew).trans gX);have y0:=hrX.cell (i:=0) (v:=.int .i64 0) rfl;have y1:=hrX.cell (i:=1) (v:=.int .i64 0) rfl;have yf0:=hrX.free 0;have yf1:=hrX.free 1;have yz:=hrX.lt;have vz:=hVX.b.lt;replace hVX:=Lib.hid hVX)
    | fail)
  have gRX:Gr w4 wX:=((Gr.refl w4).drew).trans gX;have hrX:=hrR.gr gRX;have hrf:=(hrX.set 0 (.int .i64 V4.s.ar)).set 1 (.int .i64 V4.s.an);have gs:GrX [w.heap.size + 1] wX ((wX.setCell ⟨w.heap.size + 1,0,none⟩ (.int .i64 V4.s.ar)).setCell ⟨w.heap.size + 1,1,none⟩ (.int .i64 V4.s.an)):=((GrX.refl [w.heap.size + 1] wX).set (p:=⟨w.heap.size + 1,0,none⟩) (.inl (by simp)) _).set (p:=⟨w.heap.size + 1,1,none⟩) (.inl (by simp)) _;obtain ⟨wf,hwf⟩:∃ wf,wf = ((wX.setCell ⟨w.heap.size + 1,0,none⟩ (.int .i64 V4.s.ar)).setCell ⟨w.heap.size + 1,1,none⟩ (.int .i64 V4.s.an)):=⟨_,rfl⟩
  rw [← hwf] at hrf gs ⊢;have zR2:w.heap.size + 1 < w4.heap.size:=hrR.lt;have hEX:Ents LX = V4.s.l:=hmX.trans hVR.out.e;have hMX2:LedM (fun b => w.heap.size≤b) wf aX LX:=(hMX.grx gs (fun y hy hk => by rw [List.mem_singleton.1 hy] at hk;simp only [World.size_drew] at hk;omega)).mono (fun b _ hk => by simp only [World.size_drew] at hk;omega);have hHf:=(h4'.out.gr gRX).res hrX gs hres.out (by omega) (by omega);have gXf:GrX (vb :: (M.own db ++ L.own lb)) w wf:=(gf4.out.gr gRX).trans2 gs (fun x hx => .inr (by rw [List.mem_singleton.1 hx];omega));have e1:V4.s.ar = V.s.ar:=by rw [hs4'.out]
  have e2:V4.s.an = V.s.an:=by rw [hs4'.out]
  have e3:V4.s.l = V.s.l:=by rw [hs4'.out]
  replace hMX2:=Lib.hid hMX2;replace hrf:=Lib.hid hrf;replace hHf:=Lib.hid hHf;replace gXf:=Lib.hid gXf;replace e1:=Lib.hid e1;replace e2:=Lib.hid e2;replace e3:=Lib.hid e3;clear gs hwf;go_wp2_with fail;refine bodyPost_ret (v:=.tuple #[.agg #[.int .i64 V4.s.ar,.int .i64 V4.s.an],.slice aX V4.s.l.length cX,.nilIface]) ?_ rfl ⟨M4,L4,V4,_,hd4.out,hl4.out,hHf.out,rfl,ho4'.out,hm4.out,gXf.out,hn4.out,.inl ⟨hz.out,hs4'.out,aX,cX,LX,by rw [e1.out,e2.out,e3.out],by rw [hEX,e3.out],hMX2.out,hnX,by rw [← e3.out];exact hcX1⟩⟩;exact (res_cell3 (b:=w.heap.size + 1) (t:=23) Tryz.results13 _ _ hrf.out rfl Tryz.underlying23 (by kernel_rfl)).trans rfl
 ·have hs4':V4.s = V.s:=by rw [hs4,if_neg hz]
  rw [hg];have q0:=hrR.cell (i:=0) (v:=.int .i64 0) rfl;have q1:=hrR.cell (i:=1) (v:=.int .i64 0) rfl;have qf0:=hrR.free 0;have qf1:=hrR.free 1;have qz:=hrR.lt;have gs:GrX [w.heap.size + 1] w4 ((w4.setCell ⟨w.heap.size + 1,0,none⟩ (.int .i64 0)).setCell ⟨w.heap.size + 1,1,none⟩ (.int .i64 0)):=((GrX.refl [w.heap.size + 1] w4).set (p:=⟨w.heap.size + 1,0,none⟩) (.inl (by simp)) _).set (p:=⟨w.heap.size + 1,1,none⟩) (.inl (by simp)) _;have hrf:=(hrR.set 0 (.int .i64 0)).set 1 (.int .i64 0);have hHf:=h4'.res hrR gs hres.out (by omega) (by omega);have gXf:=gf4.out.trans2 gs (fun x hx => .inr (by rw [List.mem_singleton.1 hx];omega));replace h4':=Lib.hid h4';replace hs4:=Lib.hid hs4;replace hs4':=Lib.hid hs4';replace hz:=Lib.hid hz;replace hg:=Lib.hid hg;replace hrf:=Lib.hid hrf;replace hHf:=Lib.hid hHf;replace gXf:=Lib.hid gXf;clear gs;go_wp2_with fail;refine bodyPost_ret (v:=.tuple #[.agg #[.int .i64 0,.int .i64 0],.slice none 0 0,errAt E g]) ?_ rfl ⟨M4,L4,V4,_,hd4.out,hl4.out,hHf.out,rfl,ho4'.out,hm4.out,gXf.out,hn4.out,.inr ⟨g,hz.out,hg.out,hs4'.out,rfl⟩⟩;exact (res_cell3 (b:=w.heap.size + 1) (t:=23) Tryz.results13 _ _ hrf.out rfl Tryz.underlying23 (by kernel_rfl)).trans rfl
theorem LedM.dropV {K:Nat→Prop} {w:World} {b off:Nat} {L:List EntM} (h:LedM K w (some ⟨b,off,none⟩) L) (k:Nat):LedM K w (some ⟨b,off + k * 10,none⟩) (L.drop k):=by
 refine ⟨⟨fun i s hi => ?_,fun x hx hne => ?_⟩,fun x hx => h.2 x (List.mem_of_mem_drop hx)⟩
 ·rw [List.getElem?_drop] at hi;obtain ⟨b2,o2,e,hb,hc⟩:=h.1.1 (k + i) s hi;injection e with e
  injection e with e1 e2 e3
  subst e1 e2;refine ⟨b,off + k * 10,rfl,hb,fun j v hv => ?_⟩;have:=hc j v hv
  rwa [show off + (k + i) * 10 + j = off + k * 10 + i * 10 + j by omega] at this
 ·injection hx with hx
  rw [← hx];exact h.1.2 ⟨b,off,none⟩ rfl (fun e => hne (by rw [e,List.drop_nil]))
theorem VwrP.pre {W:World} {E:Nat→Addr} {db lb vb:Nat} {V:VotM} {s':VotS} {b:List UInt8} {M:DskM} {L:LogM} {w w1:World} {q:Ending} {w':World} (g:Gr w w1) (h:VwrP W E db lb vb V s' b M L w1 q w'):VwrP W E db lb vb V s' b M L w q w':=by
 obtain ⟨M',L',V',h1,h2,h3,h4,h5,h6,h7,h8,h9⟩:=h.x;exact ⟨M',L',V',h1,h2,h3,h4,h5,h6,fun x hx => (h7 x hx).imp id (fun hh => by have:=g.size;omega),h8,(g.x _).trans h9⟩
set_option maxRecDepth 100000 in
set_option maxHeartbeats 3200000 in
theorem acc_no {G:List Nat} {E:Nat→Addr} {W:World} (w:World) (hE:EAt G E W) (i5:1 ∈ G) (i8:6 ∈ G) {db lb vb:Nat} {V:VotM} {M:DskM} {L:LogM} (h:Hold W db lb vb V M L w) (b:Bal) (hm:mayB V b = false) (a2:Option Addr) (c2:Nat) (Lg:List EntM) :
 Calls Tryz.prog 14 #[.pointer (some ⟨vb,0,none⟩),.agg #[.int .i64 b.r,.int .i64 b.n],.slice a2 Lg.length c2] w fun e w' => e = .returned (badE E V b)∧Gr w w':=by
 obtain ⟨g,hg⟩:∃ g,badE E V b = errAt E g:=by
  rcases may_no (E:=E) hm with h1 | h1
  ·exact ⟨_,h1⟩
  ·exact ⟨_,h1⟩
 obtain ⟨n2,hn2⟩:∃ n2,n2 = Lg.length:=⟨_,rfl⟩
 rw [← hn2];obtain ⟨w0,hw0⟩:∃ w0,w0 = w.alloc (.cells #[.int .i64 b.r,.int .i64 b.n] 23):=⟨_,rfl⟩
 have g0:Gr w w0:=by rw [hw0];exact (Gr.refl w).alloc _
 have hp0:Blk w0 w.heap.size #[.int .i64 b.r,.int .i64 b.n] 23:=by rw [hw0];exact Blk.new _ _ _
 have hma:Calls Tryz.prog 36 #[.pointer (some ⟨vb,0,none⟩),.agg #[.int .i64 b.r,.int .i64 b.n]] w0 fun e w' => e = .returned (badE E V b)∧Gr w0 w':=may_any w0 (hE.gr (h.g.trans g0)) i5 i8 (h.v.gr g0) b
 rw [hg] at hma;rw [hg];have p0:=hp0.cell (i:=0) (v:=.int .i64 b.r) rfl;have p1:=hp0.cell (i:=1) (v:=.int .i64 b.n) rfl;have pz:=hp0.lt;replace hma:=Lib.hid hma;replace h:=Lib.hid h;replace hE:=Lib.hid hE;replace hg:=Lib.hid hg;replace hn2:=Lib.hid hn2;go_enter Tryz.func14,Tryz.ntmps14;go_wp2_with fail;rw [← hw0];refine hma.out.mono ?_;rintro q w1 ⟨rfl,g1⟩;go_wp2_with fail;go_ret;exact ⟨rfl,g0.trans g1⟩
set_option maxRecDepth 100000 in
set_option maxHeartbeats 3200000 in
theorem acc_form {G:List Nat} {E:Nat→Addr} {W:World} (w:World) (hE:EAt G E W) (i0:4 ∈ G) (i5:1 ∈ G) (i3:5 ∈ G) (i8:6 ∈ G) {db lb vb:Nat} {V:VotM} {M:DskM} {L:LogM} (h:Hold W db lb vb V M L w) (b:Bal) (hm:mayB V b = true) (a2:Option Addr) (c2:Nat) (Lg:List EntM) (hM2:LedM Any w a2 Lg) (hf:ledF (Ents Lg) = false) :
 Calls Tryz.prog 14 #[.pointer (some ⟨vb,0,none⟩),.agg #[.int .i64 b.r,.int .i64 b.n],.slice a2 Lg.length c2] w fun e w' => (∃ g,(g = 4 ∨ g = 5)∧(g = 5 ↔ 64 < Lg.length)∧e = .returned (errAt E g))∧Gr w w':=by
 obtain ⟨w0,hw0⟩:∃ w0,w0 = w.alloc (.cells #[.int .i64 b.r,.int .i64 b.n] 23):=⟨_,rfl⟩
 have g0:Gr w w0:=by rw [hw0];exact (Gr.refl w).alloc _
 have hp0:Blk w0 w.heap.size #[.int .i64 b.r,.int .i64 b.n] 23:=by rw [hw0];exact Blk.new _ _ _
 have hma:Calls Tryz.prog 36 #[.pointer (some ⟨vb,0,none⟩),.agg #[.int .i64 b.r,.int .i64 b.n]] w0 fun e w' => e = .returned (badE E V b)∧Gr w0 w':=may_any w0 (hE.gr (h.g.trans g0)) i5 i8 (h.v.gr g0) b
 rw [may_yes hm] at hma;have how:∃ g,(g = 4 ∨ g = 5)∧(g = 5 ↔ 64 < Lg.length)∧∀ w1,Gr w w1→Calls Tryz.prog 40 #[.slice a2 Lg.length c2] w1 fun r w' => r = .returned (.tuple #[.slice none 0 0,errAt E g])∧Gr w1 w':=by
  by_cases hl:Lg.length≤64
  ·exact ⟨_,.inl rfl,⟨fun e => absurd e (by decide),fun e => by omega⟩,fun w1 g => (owrite_any w1 ((hE.gr h.g).gr g) i0 a2 c2 Lg (hM2.gr g) hl).mono fun r w' hh => hh.2 hf⟩
  ·exact ⟨_,.inr rfl,⟨fun _ => by omega,fun _ => rfl⟩,fun w1 g => owrite_large w1 ((hE.gr h.g).gr g) i3 a2 Lg.length c2 (by omega)⟩
 obtain ⟨g,hg1,hg2,how⟩:=how;obtain ⟨n2,hn2⟩:∃ n2,n2 = Lg.length:=⟨_,rfl⟩
 rw [← hn2] at how hg2 ⊢;have p0:=hp0.cell (i:=0) (v:=.int .i64 b.r) rfl;have p1:=hp0.cell (i:=1) (v:=.int .i64 b.n) rfl;have pz:=hp0.lt;replace hma:=Lib.hid hma;replace h:=Lib.hid h;replace hE:=Lib.hid hE;replace how:=Lib.hid how;replace hg1:=Lib.hid hg1;replace hg2:=Lib.hid hg2;replace hn2:=Lib.hid hn2;clear hf;go_enter Tryz.func14,Tryz.ntmps14;go_wp2_with fail;rw [← hw0];refine hma.out.mono ?_;rintro q w1 ⟨rfl,g1⟩;go_wp2_with fail;refine (how.out _ (g0.trans g1)).mono ?_;rintro q w2 ⟨rfl,g2⟩;go_wp2_with fail;go_ret;exact ⟨⟨g,hg1.out,hg2.out,rfl⟩,(g0.trans g1).trans g2⟩
theorem nats4 (w:World) (a b c d:Nat):RecsAt 1 natC (w.alloc (.cells #[.int .i64 a,.int .i64 b,.int .i64 c,.int .i64 d] 3)) (some ⟨w.heap.size,0,none⟩) [a,b,c,d]:=recs_alloc natC_len w [a,b,c,d] _ _ rfl
set_option maxRecDepth 100000 in
set_option maxHeartbeats 12800000 in
theorem acc_go_s {G:List Nat} {E:Nat→Addr} {W:World} (w:World) (hE:EAt G E W) (i0:4 ∈ G) (i4:0 ∈ G) (i5:1 ∈ G) (i3:5 ∈ G) (i6:2 ∈ G) (i8:6 ∈ G) {db lb vb:Nat} {V:VotM} {M:DskM} {L:LogM} (h:Hold W db lb vb V M L w) (hC:M.m + M.d.C.length≤880000) (h4:4≤M.d.n) (b:Bal) (r m:Nat) (hbr:b.r = r) (hbm:b.n = m) (hm:mayB V b = true) (lb2 lo2:Nat) (c2:Nat) (Lg:List EntM) (hM2:LedM Any w (some ⟨lb2,lo2,none⟩) Lg) (hf:ledF (Ents Lg) = true) (hc2:Lg.length≤c2) :
 Calls Tryz.prog 14 #[.pointer (some ⟨vb,0,none⟩),.agg #[.int .i64 b.r,.int .i64 b.n],.slice (some ⟨lb2,lo2,none⟩) Lg.length c2] w (VwrP W E db lb vb V ⟨r,m,r,m,Ents Lg,V.s.cl⟩ (vrB [2,r,m,shN V.s.l (Ents Lg)] (some ((Ents Lg).drop (shN V.s.l (Ents Lg))))) M L w):=by
 obtain ⟨P,hP⟩:∃ P,P = VwrP W E db lb vb V ⟨r,m,r,m,Ents Lg,V.s.cl⟩ (vrB [2,r,m,shN V.s.l (Ents Lg)] (some ((Ents Lg).drop (shN V.s.l (Ents Lg))))) M L w:=⟨_,rfl⟩
 rw [← hP];replace hP:=Lib.hid hP;have hleg:1≤b.r∧b.r≤1099511627776∧0≤b.n∧b.n≤6:=by
  unfold mayB at hm;rw [Bool.and_eq_true] at hm;exact of_decide_eq_true hm.1
 obtain ⟨hl1,hl2,hl3,hl4⟩:=hleg;have hr40:r≤1099511627776:=by omega
 have hm40:m≤1099511627776:=by omega
 have hf64:=(ledF_iff.1 hf).1;have hv64:=(ledF_iff.1 h.v.ok.2).1;have hVL:V.L.length = V.s.l.length:=by rw [← h.v.e,List.length_map]
 have hEL:(Ents Lg).length = Lg.length:=List.length_map ..;obtain ⟨k,hk⟩:∃ k,k = shN V.s.l (Ents Lg):=⟨_,rfl⟩
 have hk1:k≤V.s.l.length:=by rw [hk];exact (shN_le _ _).1
 have hk2:k≤Lg.length:=by rw [hk,← hEL];exact (shN_le _ _).2
 have htk:V.s.l.take k ++ (Ents Lg).drop k = Ents Lg:=by rw [hk,shN_take,List.take_append_drop]
 have hft:ledF ((Ents Lg).drop k) = true:=ledF_iff.2 ⟨by rw [List.length_drop];omega,fun e he => (ledF_iff.1 hf).2 e (List.mem_of_mem_drop he)⟩;obtain ⟨B,hB⟩:∃ B,B = vrB [2,r,m,k] (some ((Ents Lg).drop k)):=⟨_,rfl⟩
 have hPB:P = VwrP W E db lb vb V ⟨r,m,r,m,Ents Lg,V.s.cl⟩ B M L w:=by rw [hP.out,hB,hk]
 replace hPB:=Lib.hid hPB;obtain ⟨w0,hw0⟩:∃ w0,w0 = w.alloc (.cells #[.int .i64 b.r,.int .i64 b.n] 23):=⟨_,rfl⟩
 have g0:Gr w w0:=by rw [hw0];exact (Gr.refl w).alloc _
 have hp0:Blk w0 w.heap.size #[.int .i64 b.r,.int .i64 b.n] 23:=by rw [hw0];exact Blk.new _ _ _
 have hma:Calls Tryz.prog 36 #[.pointer (some ⟨vb,0,none⟩),.agg #[.int .i64 b.r,.int .i64 b.n]] w0 fun e w' => e = .returned (badE E V b)∧Gr w0 w':=may_any w0 (hE.gr (h.g.trans g0)) i5 i8 (h.v.gr g0) b
 rw [may_yes hm] at hma;have how:=fun w1 (g:Gr w w1) => (owrite_any w1 ((hE.gr h.g).gr g) i0 (some ⟨lb2,lo2,none⟩) c2 Lg (hM2.gr g) (by omega)).mono fun r w' hh => hh.1 hf
 have hsh:=fun w1 (g:Gr w w1) => shared_any V.a (some ⟨lb2,lo2,none⟩) V.c c2 V.L Lg w1 ((h.v.m.gr g).mono fun _ _ _ => trivial) (hM2.gr g) (by omega)
 rw [h.v.e,← hk,hVL] at hsh;obtain ⟨a3,ha3⟩:∃ a3:Option Addr,(if c2 = k then some ⟨lb2,lo2,none⟩ else some ⟨lb2,lo2 + k * 10,none⟩) = a3:=⟨_,rfl⟩
 have hrc:∀ w1 nb,Gr w w1→RecsAt 1 natC w1 (some ⟨nb,0,none⟩) [2,r,m,k]→Calls Tryz.prog 37 #[.slice (some ⟨nb,0,none⟩) 4 4,.slice a3 (Lg.length - k) (c2 - k),.bool true] w1 fun q w' => ∃ a c,q = .returned (.tuple #[.slice a B.length c,.nilIface])∧Own w1 w' a c B:=fun w1 nb g hN => by
  have hdr:LedM Any w1 a3 (Lg.drop k):=by
   rw [← ha3];by_cases hck:c2 = k
   ·have e:Lg.drop k = []:=List.drop_eq_nil_of_le (by omega);rw [e];exact LedM.nil _ _ _
   ·rw [if_neg hck];exact (hM2.gr g).dropV k
  have hh:=record_led w1 ((hE.gr h.g).gr g) i0 ((Ents Lg).drop k) hft a3 (c2 - k) (Lg.drop k) (List.map_drop ..) hdr (some ⟨nb,0,none⟩) 4 [2,r,m,k] hN (by simp;omega) (by simp);rw [List.length_drop,hEL,← hB] at hh;exact hh
 rw [hbr,hbm] at hma hp0 hw0 ⊢;obtain ⟨bl,hbl⟩:∃ bl,bl = B.length:=⟨_,rfl⟩
 obtain ⟨n2,hn2⟩:∃ n2,n2 = Lg.length:=⟨_,rfl⟩
 obtain ⟨wl,hwl⟩:∃ wl,wl = (ledB (Ents Lg)).length:=⟨_,rfl⟩
 rw [← hn2] at how hsh hrc hc2 hk2 ⊢;rw [← hwl] at how;rw [← hbl] at hrc;have p0:=hp0.cell (i:=0) (v:=.int .i64 r) rfl;have p1:=hp0.cell (i:=1) (v:=.int .i64 m) rfl;have pz:=hp0.lt;replace hma:=Lib.hid hma;replace how:=Lib.hid how;replace hsh:=Lib.hid hsh;replace hrc:=Lib.hid hrc;replace h:=Lib.hid h;replace hE:=Lib.hid hE;replace hB:=Lib.hid hB;replace hbl:=Lib.hid hbl;replace hn2:=Lib.hid hn2;replace hwl:=Lib.hid hwl;replace hk:=Lib.hid hk;replace htk:=Lib.hid htk;replace hft:=Lib.hid hft;replace hf:=Lib.hid hf;replace hVL:=Lib.hid hVL;replace hEL:=Lib.hid hEL;replace hM2:=Lib.hid hM2;replace hC:=Lib.hid hC;replace hk1:=Lib.hid hk1;replace hv64:=Lib.hid hv64;replace hf64:=Lib.hid hf64;clear hm hl1 hl2 hl3 hl4 hbr hbm;have kk1:(k:Int)≤n2:=by omega
 have kk2:(k:Int)≤c2:=by omega
 go_enter Tryz.func14,Tryz.ntmps14;go_wp2_with fail;rw [← hw0];refine hma.out.mono ?_;rintro q w1 ⟨rfl,g1⟩;have gw1:=g0.trans g1;go_wp2_with fail;refine (how.out _ gw1).mono ?_;rintro q w2 ⟨aw,cw,rfl,how2⟩;have gw2:=gw1.trans how2.2.2.2.2;have h2:=h.out.gr gw2;have hp2:=(hp0.gr g1).gr how2.2.2.2.2;have d0:=h2.v.b.cell (i:=0) (v:=.int .i64 V.s.pr) rfl;have d1:=h2.v.b.cell (i:=1) (v:=.int .i64 V.s.pn) rfl;have d2:=h2.v.b.cell (i:=2) (v:=.int .i64 V.s.ar) rfl;have d3:=h2.v.b.cell (i:=3) (v:=.int .i64 V.s.an) rfl;have d4:=h2.v.b.cell (i:=4) (v:=.slice V.a V.s.l.length V.c) rfl;have d5:=h2.v.b.cell (i:=5) (v:=.int .i64 V.s.cl) rfl;have d6:=h2.v.b.cell (i:=6) (v:=.int .i64 V.nu) rfl;have d7:=h2.v.b.cell (i:=7) (v:=.pointer (some ⟨lb,0,none⟩)) rfl;have dz:=h2.v.b.lt;replace how2:=Lib.hid how2;replace h2:=Lib.hid h2;clear p0 p1 pz;go_wp2_with fail;refine (hsh.out _ gw2).mono ?_;rintro q w3 ⟨rfl,g3⟩;have gw3:=gw2.trans g3;have hp3:=hp2.gr g3;have p0:=hp3.cell (i:=0) (v:=.int .i64 r) rfl;have p1:=hp3.cell (i:=1) (v:=.int .i64 m) rfl;have pz:=hp3.lt;clear d0 d1 d2 d3 d4 d5 d6 d7 dz;go_upto_region 8 with fail
 have h3:=h2.out.gr g3;replace h3:=Lib.hid h3;replace g3:=Lib.hid g3;replace hp3:=Lib.hid hp3;go_region_held3 (fun w' => w'.cell? ⟨w.heap.size,0,none⟩ = some (.int .i64 r)∧w'.cell? ⟨w.heap.size,1,none⟩ = some (.int .i64 m)) (simp (maxDischargeDepth:=8) [go_sem, *])
  (first
   | (go_at_call 37;(with_reducible refine (hrc.out _ _ ?hg ?hr).mono ?_);(case hg => refine gw3.trans ?_;repeat (first | exact Gr.refl _ | refine Gr.alloc ?_ _ | refine Gr.drew ?_));(case hr => first | exact nats4 _ _ _ _ _ | exact RecsAt.gr' (nats4 _ _ _ _ _) ((Gr.refl _).drew));rintro q w4 ⟨a4,c4,rfl,ho4⟩;have hb4:=h3.out.own_byt (((Gr.refl w3).alloc _).drew) ho4;have g34:Gr w3 w4:=(((Gr.refl w3).alloc _).drew).trans ho4.2.2.2.2;replace ho4:=Lib.hid ho4;have hp4:=hp3.out.gr g34;have x0:=hp4.cell (i:=0) (v:=.int .i64 r) rfl;have x1:=hp4.cell (i:=1) (v:=.int .i64 m) rfl;have xz:=hp4.lt;replace hp4:=Lib.hid hp4;replace hb4:=Lib.hid hb4;replace g34:=Lib.hid g34)
   | fail)
 have h4':=h3.out.gr g34.out;have gw4:Gr w w4:=gw3.trans g34.out;have hvok:=h4'.v.ok;have hwr:=write_any w4 hE.out i0 i4 i5 i3 i6 h4' (by have:=hC.out;omega) h4 a4 c4 B hb4.out ⟨r,m,r,m,Ents Lg,V.s.cl⟩ ⟨⟨hr40,hm40,hr40,hm40,hvok.1.2.2.2.2⟩,hf.out⟩ (fun w1 gW1 hS1 hM1 => by
  rw [hB.out] at hS1 ⊢;refine (done_a w1 hE.out gW1 i0 a4 c4 V.s V.a V.c V.L h4'.v.e hM1 h4'.v.c hv64.out r m k ((Ents Lg).drop k) hr40 hm40 hk1.out hft.out hS1 hb4.out.n).mono ?_;rw [htk.out];rintro e w' ⟨a',c',L',rfl,q1,q2,q3,q4,-,q6⟩;exact ⟨a',c',L',rfl,q1,.inl q2,q3,q4,q6⟩)
 rw [← hbl.out] at hwr;replace hwr:=Lib.hid hwr;replace h4':=Lib.hid h4';replace hvok:=Lib.hid hvok;replace gw4:=Lib.hid gw4;go_wp2_with fail;refine hwr.out.mono ?_;intro q w5 hq;have hq2:=VwrP.pre gw4.out hq;rw [← hPB.out] at hq2;obtain ⟨M',L',V',rfl,-⟩:=hq.x;clear hq;replace hq2:=Lib.hid hq2;go_wp2_with fail;exact hq2.out
set_option maxRecDepth 100000 in
set_option maxHeartbeats 12800000 in
theorem acc_go_e {G:List Nat} {E:Nat→Addr} {W:World} (w:World) (hE:EAt G E W) (i0:4 ∈ G) (i4:0 ∈ G) (i5:1 ∈ G) (i3:5 ∈ G) (i6:2 ∈ G) (i8:6 ∈ G) {db lb vb:Nat} {V:VotM} {M:DskM} {L:LogM} (h:Hold W db lb vb V M L w) (hC:M.m + M.d.C.length≤880000) (h4:4≤M.d.n) (b:Bal) (r m:Nat) (hbr:b.r = r) (hbm:b.n = m) (hm:mayB V b = true) (p2:Addr) (c2:Nat) (Lg:List EntM) (hM2:LedM Any w (some p2) Lg) (hf:ledF (Ents Lg) = true) (hc2:Lg.length≤c2) (hnil:Lg = []) :
 Calls Tryz.prog 14 #[.pointer (some ⟨vb,0,none⟩),.agg #[.int .i64 b.r,.int .i64 b.n],.slice (some p2) Lg.length c2] w (VwrP W E db lb vb V ⟨r,m,r,m,Ents Lg,V.s.cl⟩ (vrB [2,r,m,shN V.s.l (Ents Lg)] (some ((Ents Lg).drop (shN V.s.l (Ents Lg))))) M L w):=by
 obtain ⟨P,hP⟩:∃ P,P = VwrP W E db lb vb V ⟨r,m,r,m,Ents Lg,V.s.cl⟩ (vrB [2,r,m,shN V.s.l (Ents Lg)] (some ((Ents Lg).drop (shN V.s.l (Ents Lg))))) M L w:=⟨_,rfl⟩
 rw [← hP];replace hP:=Lib.hid hP;have hleg:1≤b.r∧b.r≤1099511627776∧0≤b.n∧b.n≤6:=by
  unfold mayB at hm;rw [Bool.and_eq_true] at hm;exact of_decide_eq_true hm.1
 obtain ⟨hl1,hl2,hl3,hl4⟩:=hleg;have hr40:r≤1099511627776:=by omega
 have hm40:m≤1099511627776:=by omega
 have hf64:=(ledF_iff.1 hf).1;have hv64:=(ledF_iff.1 h.v.ok.2).1;have hVL:V.L.length = V.s.l.length:=by rw [← h.v.e,List.length_map]
 have hEL:(Ents Lg).length = Lg.length:=List.length_map ..;obtain ⟨k,hk⟩:∃ k,k = shN V.s.l (Ents Lg):=⟨_,rfl⟩
 have hk1:k≤V.s.l.length:=by rw [hk];exact (shN_le _ _).1
 have hk2:k≤Lg.length:=by rw [hk,← hEL];exact (shN_le _ _).2
 have htk:V.s.l.take k ++ (Ents Lg).drop k = Ents Lg:=by rw [hk,shN_take,List.take_append_drop]
 have hft:ledF ((Ents Lg).drop k) = true:=ledF_iff.2 ⟨by rw [List.length_drop];omega,fun e he => (ledF_iff.1 hf).2 e (List.mem_of_mem_drop he)⟩;obtain ⟨B,hB⟩:∃ B,B = vrB [2,r,m,k] (some ((Ents Lg).drop k)):=⟨_,rfl⟩
 have hPB:P = VwrP W E db lb vb V ⟨r,m,r,m,Ents Lg,V.s.cl⟩ B M L w:=by rw [hP.out,hB,hk]
 replace hPB:=Lib.hid hPB;obtain ⟨w0,hw0⟩:∃ w0,w0 = w.alloc (.cells #[.int .i64 b.r,.int .i64 b.n] 23):=⟨_,rfl⟩
 have g0:Gr w w0:=by rw [hw0];exact (Gr.refl w).alloc _
 have hp0:Blk w0 w.heap.size #[.int .i64 b.r,.int .i64 b.n] 23:=by rw [hw0];exact Blk.new _ _ _
 have hma:Calls Tryz.prog 36 #[.pointer (some ⟨vb,0,none⟩),.agg #[.int .i64 b.r,.int .i64 b.n]] w0 fun e w' => e = .returned (badE E V b)∧Gr w0 w':=may_any w0 (hE.gr (h.g.trans g0)) i5 i8 (h.v.gr g0) b
 rw [may_yes hm] at hma;have how:=fun w1 (g:Gr w w1) => (owrite_any w1 ((hE.gr h.g).gr g) i0 (some p2) c2 Lg (hM2.gr g) (by omega)).mono fun r w' hh => hh.1 hf
 have hsh:=fun w1 (g:Gr w w1) => shared_any V.a (some p2) V.c c2 V.L Lg w1 ((h.v.m.gr g).mono fun _ _ _ => trivial) (hM2.gr g) (by omega)
 rw [h.v.e,← hk,hVL] at hsh;obtain ⟨a3,ha3⟩:∃ a3:Option Addr,(if c2 = k then some p2 else some (p2.add (k * 10))) = a3:=⟨_,rfl⟩
 have hrc:∀ w1 nb,Gr w w1→RecsAt 1 natC w1 (some ⟨nb,0,none⟩) [2,r,m,k]→Calls Tryz.prog 37 #[.slice (some ⟨nb,0,none⟩) 4 4,.slice a3 (Lg.length - k) (c2 - k),.bool true] w1 fun q w' => ∃ a c,q = .returned (.tuple #[.slice a B.length c,.nilIface])∧Own w1 w' a c B:=fun w1 nb g hN => by
  have hdr:LedM Any w1 a3 (Lg.drop k):=by
   rw [← ha3];have e:Lg.drop k = []:=by rw [hnil,List.drop_nil]
   rw [e];exact LedM.nil _ _ _
  have hh:=record_led w1 ((hE.gr h.g).gr g) i0 ((Ents Lg).drop k) hft a3 (c2 - k) (Lg.drop k) (List.map_drop ..) hdr (some ⟨nb,0,none⟩) 4 [2,r,m,k] hN (by simp;omega) (by simp);rw [List.length_drop,hEL,← hB] at hh;exact hh
 rw [hbr,hbm] at hma hp0 hw0 ⊢;obtain ⟨bl,hbl⟩:∃ bl,bl = B.length:=⟨_,rfl⟩
 obtain ⟨n2,hn2⟩:∃ n2,n2 = Lg.length:=⟨_,rfl⟩
 obtain ⟨wl,hwl⟩:∃ wl,wl = (ledB (Ents Lg)).length:=⟨_,rfl⟩
 rw [← hn2] at how hsh hrc hc2 hk2 ⊢;rw [← hwl] at how;rw [← hbl] at hrc;have p0:=hp0.cell (i:=0) (v:=.int .i64 r) rfl;have p1:=hp0.cell (i:=1) (v:=.int .i64 m) rfl;have pz:=hp0.lt;replace hma:=Lib.hid hma;replace how:=Lib.hid how;replace hsh:=Lib.hid hsh;replace hrc:=Lib.hid hrc;replace h:=Lib.hid h;replace hE:=Lib.hid hE;replace hB:=Lib.hid hB;replace hbl:=Lib.hid hbl;replace hn2:=Lib.hid hn2;replace hwl:=Lib.hid hwl;replace hk:=Lib.hid hk;replace htk:=Lib.hid htk;replace hft:=Lib.hid hft;replace hf:=Lib.hid hf;replace hVL:=Lib.hid hVL;replace hEL:=Lib.hid hEL;replace hM2:=Lib.hid hM2;replace hC:=Lib.hid hC;replace hk1:=Lib.hid hk1;replace hv64:=Lib.hid hv64;replace hf64:=Lib.hid hf64;clear hm hl1 hl2 hl3 hl4 hbr hbm;have kk1:(k:Int)≤n2:=by omega
 have kk2:(k:Int)≤c2:=by omega
 go_enter Tryz.func14,Tryz.ntmps14;go_wp2_with fail;rw [← hw0];refine hma.out.mono ?_;rintro q w1 ⟨rfl,g1⟩;have gw1:=g0.trans g1;go_wp2_with fail;refine (how.out _ gw1).mono ?_;rintro q w2 ⟨aw,cw,rfl,how2⟩;have gw2:=gw1.trans how2.2.2.2.2;have h2:=h.out.gr gw2;have hp2:=(hp0.gr g1).gr how2.2.2.2.2;have d0:=h2.v.b.cell (i:=0) (v:=.int .i64 V.s.pr) rfl;have d1:=h2.v.b.cell (i:=1) (v:=.int .i64 V.s.pn) rfl;have d2:=h2.v.b.cell (i:=2) (v:=.int .i64 V.s.ar) rfl;have d3:=h2.v.b.cell (i:=3) (v:=.int .i64 V.s.an) rfl;have d4:=h2.v.b.cell (i:=4) (v:=.slice V.a V.s.l.length V.c) rfl;have d5:=h2.v.b.cell (i:=5) (v:=.int .i64 V.s.cl) rfl;have d6:=h2.v.b.cell (i:=6) (v:=.int .i64 V.nu) rfl;have d7:=h2.v.b.cell (i:=7) (v:=.pointer (some ⟨lb,0,none⟩)) rfl;have dz:=h2.v.b.lt;replace how2:=Lib.hid how2;replace h2:=Lib.hid h2;clear p0 p1 pz;go_wp2_with fail;refine (hsh.out _ gw2).mono ?_;rintro q w3 ⟨rfl,g3⟩;have gw3:=gw2.trans g3;have hp3:=hp2.gr g3;have p0:=hp3.cell (i:=0) (v:=.int .i64 r) rfl;have p1:=hp3.cell (i:=1) (v:=.int .i64 m) rfl;have pz:=hp3.lt;clear d0 d1 d2 d3 d4 d5 d6 d7 dz;go_upto_region 8 with fail
 have h3:=h2.out.gr g3;replace h3:=Lib.hid h3;replace g3:=Lib.hid g3;replace hp3:=Lib.hid hp3;go_region_held3 (fun w' => w'.cell? ⟨w.heap.size,0,none⟩ = some (.int .i64 r)∧w'.cell? ⟨w.heap.size,1,none⟩ = some (.int .i64 m)) (simp (maxDischargeDepth:=8) [go_sem, *])
  (first
   | (go_at_call 37;(with_reducible refine (hrc.out _ _ ?hg ?hr).mono ?_);(case hg => refine gw3.trans ?_;repeat (first | exact Gr.refl _ | refine Gr.alloc ?_ _ | refine Gr.drew ?_));(case hr => first | exact nats4 _ _ _ _ _ | exact RecsAt.gr' (nats4 _ _ _ _ _) ((Gr.refl _).drew));rintro q w4 ⟨a4,c4,rfl,ho4⟩;have hb4:=h3.out.own_byt (((Gr.refl w3).alloc _).drew) ho4;have g34:Gr w3 w4:=(((Gr.refl w3).alloc _).drew).trans ho4.2.2.2.2;replace ho4:=Lib.hid ho4;have hp4:=hp3.out.gr g34;have x0:=hp4.cell (i:=0) (v:=.int .i64 r) rfl;have x1:=hp4.cell (i:=1) (v:=.int .i64 m) rfl;have xz:=hp4.lt;replace hp4:=Lib.hid hp4;replace hb4:=Lib.hid hb4;replace g34:=Lib.hid g34)
   | fail)
 have h4':=h3.out.gr g34.out;have gw4:Gr w w4:=gw3.trans g34.out;have hvok:=h4'.v.ok;have hwr:=write_any w4 hE.out i0 i4 i5 i3 i6 h4' (by have:=hC.out;omega) h4 a4 c4 B hb4.out ⟨r,m,r,m,Ents Lg,V.s.cl⟩ ⟨⟨hr40,hm40,hr40,hm40,hvok.1.2.2.2.2⟩,hf.out⟩ (fun w1 gW1 hS1 hM1 => by
  rw [hB.out] at hS1 ⊢;refine (done_a w1 hE.out gW1 i0 a4 c4 V.s V.a V.c V.L h4'.v.e hM1 h4'.v.c hv64.out r m k ((Ents Lg).drop k) hr40 hm40 hk1.out hft.out hS1 hb4.out.n).mono ?_;rw [htk.out];rintro e w' ⟨a',c',L',rfl,q1,q2,q3,q4,-,q6⟩;exact ⟨a',c',L',rfl,q1,.inl q2,q3,q4,q6⟩)
 rw [← hbl.out] at hwr;replace hwr:=Lib.hid hwr;replace h4':=Lib.hid h4';replace hvok:=Lib.hid hvok;replace gw4:=Lib.hid gw4;go_wp2_with fail;refine hwr.out.mono ?_;intro q w5 hq;have hq2:=VwrP.pre gw4.out hq;rw [← hPB.out] at hq2;obtain ⟨M',L',V',rfl,-⟩:=hq.x;clear hq;replace hq2:=Lib.hid hq2;go_wp2_with fail;exact hq2.out
set_option maxRecDepth 100000 in
set_option maxHeartbeats 12800000 in
theorem acc_go_z {G:List Nat} {E:Nat→Addr} {W:World} (w:World) (hE:EAt G E W) (i0:4 ∈ G) (i4:0 ∈ G) (i5:1 ∈ G) (i3:5 ∈ G) (i6:2 ∈ G) (i8:6 ∈ G) {db lb vb:Nat} {V:VotM} {M:DskM} {L:LogM} (h:Hold W db lb vb V M L w) (hC:M.m + M.d.C.length≤880000) (h4:4≤M.d.n) (b:Bal) (r m:Nat) (hbr:b.r = r) (hbm:b.n = m) (hm:mayB V b = true) :
 Calls Tryz.prog 14 #[.pointer (some ⟨vb,0,none⟩),.agg #[.int .i64 b.r,.int .i64 b.n],.slice none 0 0] w (VwrP W E db lb vb V ⟨r,m,r,m,[],V.s.cl⟩ (vrB [2,r,m,0] (some [])) M L w):=by
 obtain ⟨P,hP⟩:∃ P,P = VwrP W E db lb vb V ⟨r,m,r,m,[],V.s.cl⟩ (vrB [2,r,m,0] (some [])) M L w:=⟨_,rfl⟩
 rw [← hP];replace hP:=Lib.hid hP;have hleg:1≤b.r∧b.r≤1099511627776∧0≤b.n∧b.n≤6:=by
  unfold mayB at hm;rw [Bool.and_eq_true] at hm;exact of_decide_eq_true hm.1
 obtain ⟨hl1,hl2,hl3,hl4⟩:=hleg;have hr40:r≤1099511627776:=by omega
 have hm40:m≤1099511627776:=by omega
 have hv64:=(ledF_iff.1 h.v.ok.2).1;have hVL:V.L.length = V.s.l.length:=by rw [← h.v.e,List.length_map]
 have hft:ledF [] = true:=ledF_iff.2 ⟨by simp,fun e he => by cases he⟩;obtain ⟨B,hB⟩:∃ B,B = vrB [2,r,m,0] (some []):=⟨_,rfl⟩
 have hPB:P = VwrP W E db lb vb V ⟨r,m,r,m,[],V.s.cl⟩ B M L w:=by rw [hP.out,hB]
 replace hPB:=Lib.hid hPB;obtain ⟨w0,hw0⟩:∃ w0,w0 = w.alloc (.cells #[.int .i64 b.r,.int .i64 b.n] 23):=⟨_,rfl⟩
 have g0:Gr w w0:=by rw [hw0];exact (Gr.refl w).alloc _
 have hp0:Blk w0 w.heap.size #[.int .i64 b.r,.int .i64 b.n] 23:=by rw [hw0];exact Blk.new _ _ _
 have hma:Calls Tryz.prog 36 #[.pointer (some ⟨vb,0,none⟩),.agg #[.int .i64 b.r,.int .i64 b.n]] w0 fun e w' => e = .returned (badE E V b)∧Gr w0 w':=may_any w0 (hE.gr (h.g.trans g0)) i5 i8 (h.v.gr g0) b
 rw [may_yes hm] at hma;have how:∀ w1,Gr w w1→Calls Tryz.prog 40 #[.slice none 0 0] w1 fun r w' => ∃ a' c',r = .returned (.tuple #[.slice a' (ledB []).length c',.nilIface])∧Own w1 w' a' c' (ledB []):=fun w1 (g:Gr w w1) => (owrite_any (K:=Any) w1 ((hE.gr h.g).gr g) i0 none 0 [] (LedM.nil _ _ _) (by simp)).mono fun r w' hh => hh.1 hft
 have hs0:shN V.s.l (Ents []) = 0:=by have:=(shN_le V.s.l (Ents [])).2;simpa using this
 have hsh:∀ w1,Gr w w1→Calls Tryz.prog 41 #[.slice V.a V.s.l.length V.c,.slice none 0 0] w1 fun e w' => e = .returned (.int .i64 0)∧Gr w1 w':=fun w1 (g:Gr w w1) => by
  have hh:=shared_any V.a none V.c 0 V.L [] w1 ((h.v.m.gr g).mono fun _ _ _ => trivial) (LedM.nil _ _ _) (by omega);rw [h.v.e,hs0,hVL] at hh;exact hh
 have hrc:∀ w1 nb,Gr w w1→RecsAt 1 natC w1 (some ⟨nb,0,none⟩) [2,r,m,0]→Calls Tryz.prog 37 #[.slice (some ⟨nb,0,none⟩) 4 4,.slice none 0 0,.bool true] w1 fun q w' => ∃ a c,q = .returned (.tuple #[.slice a B.length c,.nilIface])∧Own w1 w' a c B:=fun w1 nb g hN => by
  have hh:=record_led (K:=Any) w1 ((hE.gr h.g).gr g) i0 [] hft none 0 [] rfl (LedM.nil _ _ _) (some ⟨nb,0,none⟩) 4 [2,r,m,0] hN (by simp;omega) (by simp);rw [← hB] at hh;exact hh
 rw [hbr,hbm] at hma hp0 hw0 ⊢;obtain ⟨bl,hbl⟩:∃ bl,bl = B.length:=⟨_,rfl⟩
 obtain ⟨wl,hwl⟩:∃ wl,wl = (ledB []).length:=⟨_,rfl⟩
 rw [← hwl] at how;rw [← hbl] at hrc;have p0:=hp0.cell (i:=0) (v:=.int .i64 r) rfl;have p1:=hp0.cell (i:=1) (v:=.int .i64 m) rfl;have pz:=hp0.lt;replace hma:=Lib.hid hma;replace how:=Lib.hid how;replace hsh:=Lib.hid hsh;clear hs0;replace hrc:=Lib.hid hrc;replace h:=Lib.hid h;replace hE:=Lib.hid hE;replace hB:=Lib.hid hB;replace hbl:=Lib.hid hbl;replace hwl:=Lib.hid hwl;replace hft:=Lib.hid hft;replace hVL:=Lib.hid hVL;replace hC:=Lib.hid hC;replace hv64:=Lib.hid hv64;clear hm hl1 hl2 hl3 hl4 hbr hbm;go_enter Tryz.func14,Tryz.ntmps14;go_wp2_with fail;rw [← hw0];refine hma.out.mono ?_;rintro q w1 ⟨rfl,g1⟩;have gw1:=g0.trans g1;go_wp2_with fail;refine (how.out _ gw1).mono ?_;rintro q w2 ⟨aw,cw,rfl,how2⟩;have gw2:=gw1.trans how2.2.2.2.2;have h2:=h.out.gr gw2;have hp2:=(hp0.gr g1).gr how2.2.2.2.2;have d0:=h2.v.b.cell (i:=0) (v:=.int .i64 V.s.pr) rfl;have d1:=h2.v.b.cell (i:=1) (v:=.int .i64 V.s.pn) rfl;have d2:=h2.v.b.cell (i:=2) (v:=.int .i64 V.s.ar) rfl;have d3:=h2.v.b.cell (i:=3) (v:=.int .i64 V.s.an) rfl;have d4:=h2.v.b.cell (i:=4) (v:=.slice V.a V.s.l.length V.c) rfl;have d5:=h2.v.b.cell (i:=5) (v:=.int .i64 V.s.cl) rfl;have d6:=h2.v.b.cell (i:=6) (v:=.int .i64 V.nu) rfl;have d7:=h2.v.b.cell (i:=7) (v:=.pointer (some ⟨lb,0,none⟩)) rfl;have dz:=h2.v.b.lt;replace how2:=Lib.hid how2;replace h2:=Lib.hid h2;clear p0 p1 pz;go_wp2_with fail;refine (hsh.out _ gw2).mono ?_;rintro q w3 ⟨rfl,g3⟩;have gw3:=gw2.trans g3;have hp3:=hp2.gr g3;have p0:=hp3.cell (i:=0) (v:=.int .i64 r) rfl;have p1:=hp3.cell (i:=1) (v:=.int .i64 m) rfl;have pz:=hp3.lt;clear d0 d1 d2 d3 d4 d5 d6 d7 dz;go_upto_region 8 with fail
 have h3:=h2.out.gr g3;replace h3:=Lib.hid h3;replace g3:=Lib.hid g3;replace hp3:=Lib.hid hp3;go_region_held3 (fun w' => w'.cell? ⟨w.heap.size,0,none⟩ = some (.int .i64 r)∧w'.cell? ⟨w.heap.size,1,none⟩ = some (.int .i64 m)) (simp (maxDischargeDepth:=8) [go_sem, *])
  (first
   | (go_at_call 37;(with_reducible refine (hrc.out _ _ ?hg ?hr).mono ?_);(case hg => refine gw3.trans ?_;repeat (first | exact Gr.refl _ | refine Gr.alloc ?_ _ | refine Gr.drew ?_));(case hr => first | exact nats4 _ _ _ _ _ | exact RecsAt.gr' (nats4 _ _ _ _ _) ((Gr.refl _).drew));rintro q w4 ⟨a4,c4,rfl,ho4⟩;have hb4:=h3.out.own_byt (((Gr.refl w3).alloc _).drew) ho4;have g34:Gr w3 w4:=(((Gr.refl w3).alloc _).drew).trans ho4.2.2.2.2;replace ho4:=Lib.hid ho4;have hp4:=hp3.out.gr g34;have x0:=hp4.cell (i:=0) (v:=.int .i64 r) rfl;have x1:=hp4.cell (i:=1) (v:=.int .i64 m) rfl;have xz:=hp4.lt;replace hp4:=Lib.hid hp4;replace hb4:=Lib.hid hb4;replace g34:=Lib.hid g34)
   | fail)
 have h4':=h3.out.gr g34.out;have gw4:Gr w w4:=gw3.trans g34.out;have hvok:=h4'.v.ok;have hwr:=write_any w4 hE.out i0 i4 i5 i3 i6 h4' (by have:=hC.out;omega) h4 a4 c4 B hb4.out ⟨r,m,r,m,[],V.s.cl⟩ ⟨⟨hr40,hm40,hr40,hm40,hvok.1.2.2.2.2⟩,hft.out⟩ (fun w1 gW1 hS1 hM1 => by
  rw [hB.out] at hS1 ⊢;refine (done_a w1 hE.out gW1 i0 a4 c4 V.s V.a V.c V.L h4'.v.e hM1 h4'.v.c hv64.out r m 0 [] hr40 hm40 (Nat.zero_le _) hft.out hS1 hb4.out.n).mono ?_;rw [List.take_zero,List.nil_append];rintro e w' ⟨a',c',L',rfl,q1,q2,q3,q4,-,q6⟩;exact ⟨a',c',L',rfl,q1,.inl q2,q3,q4,q6⟩)
 rw [← hbl.out] at hwr;replace hwr:=Lib.hid hwr;replace h4':=Lib.hid h4';replace hvok:=Lib.hid hvok;replace gw4:=Lib.hid gw4;go_wp2_with fail;refine hwr.out.mono ?_;intro q w5 hq;have hq2:=VwrP.pre gw4.out hq;rw [← hPB.out] at hq2;obtain ⟨M',L',V',rfl,-⟩:=hq.x;clear hq;replace hq2:=Lib.hid hq2;go_wp2_with fail;exact hq2.out
theorem acc_go {G:List Nat} {E:Nat→Addr} {W:World} (w:World) (hE:EAt G E W) (i0:4 ∈ G) (i4:0 ∈ G) (i5:1 ∈ G) (i3:5 ∈ G) (i6:2 ∈ G) (i8:6 ∈ G) {db lb vb:Nat} {V:VotM} {M:DskM} {L:LogM} (h:Hold W db lb vb V M L w) (hC:M.m + M.d.C.length≤880000) (h4:4≤M.d.n) (b:Bal) (r m:Nat) (hbr:b.r = r) (hbm:b.n = m) (hm:mayB V b = true) (a2:Option Addr) (c2:Nat) (Lg:List EntM) (hM2:LedM Any w a2 Lg) (hf:ledF (Ents Lg) = true) (ha2:a2 = none→c2 = 0) (hc2:Lg.length≤c2) :
 Calls Tryz.prog 14 #[.pointer (some ⟨vb,0,none⟩),.agg #[.int .i64 b.r,.int .i64 b.n],.slice a2 Lg.length c2] w (VwrP W E db lb vb V ⟨r,m,r,m,Ents Lg,V.s.cl⟩ (vrB [2,r,m,shN V.s.l (Ents Lg)] (some ((Ents Lg).drop (shN V.s.l (Ents Lg))))) M L w):=by
 cases Lg with
 | nil =>
  cases a2 with
  | none =>
   obtain rfl:=ha2 rfl;have hs0:shN V.s.l (Ents []) = 0:=by have:=(shN_le V.s.l (Ents [])).2;simpa using this
   rw [hs0];exact acc_go_z w hE i0 i4 i5 i3 i6 i8 h hC h4 b r m hbr hbm hm
  | some p => exact acc_go_e w hE i0 i4 i5 i3 i6 i8 h hC h4 b r m hbr hbm hm p c2 [] hM2 hf hc2 rfl
 | cons x l =>
  obtain ⟨lb2,lo2,rfl,-⟩:=hM2.get (i:=0) (x:=x) rfl;exact acc_go_s w hE i0 i4 i5 i3 i6 i8 h hC h4 b r m hbr hbm hm lb2 lo2 c2 (x :: l) hM2 hf hc2
end Go.Proofs.YteigofaccjaobaaGreatDoor
