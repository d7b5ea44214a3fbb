/- admit.Guest under PolicyDeadline: the contract. -/
import Derived.Test.YtdfelohjdkcpkaaGreatDoorK8
import Derived.Test.YtdfelohjdkcpkaaGreatDoorK7
import Derived.Deep.RegionLaw
import Derived.Test.YtdfelohjdkcpkaaGreatDoorK6
import Derived.Test.YtdfelohjdkcpkaaGreatDoorK2
import Derived.Test.YtdfelohjdkcpkaaGreatDoorK5
import Derived.Test.YtdfelohjdkcpkaaGreatDoorK1
import Derived.Lib.SmallJoins
namespace Go.Proofs.YtdfelohjdkcpkaaGreatDoor
open Go.RowKit
set_option maxRecDepth 100000 in
set_option maxHeartbeats 6400000 in
theorem guestD_line {G:List Nat} {E:Nat→Addr} (s:Srv) (a:Option Addr) (l:List Tsk) (c:Nat) (w:World) (hE:EAt G E w) (i0:9 ∈ G) (i1:11 ∈ G) (h:parOk s = true) (hl:TsksAt w a l) (hg:guestOk 1 l = true) (hb1:lineB s (shareT l) (sumC l + maxS l) = false) :
 Calls Tryz.prog 170 #[.agg #[.int .i64 s.k,.int .i64 s.q,.int .i64 s.t],.int .i64 1,.slice a l.length c] w fun e w' => e = .returned (Value.iface 384 (.pointer (some (E 11))))∧Gr w w':=by
 have hsi:=fun w => silence_yes s w h
 have hcg:=fun w' (g:Gr w w') => checkGuest_yes 1 a l c w' (hl.gr g) hg
 obtain ⟨_,_,hok⟩:=(guestOk_iff 1 l).1 hg;have h8:=(tasksOk_parts hok).2;have htk:=fun w' (g:Gr w w') => tasks_yes a l c w' (hl.gr g) hok
 have hsh:=shr_shareT hok;have hq:=sumC_bd hok l.length;have hs:=maxS_bd hok l.length;rw [List.take_length] at hq hs;obtain ⟨hq1,hq2⟩:=hq;obtain ⟨hs1,hs2⟩:=hs;have hln:=fun w' (g:Gr w w') => line_any s (shareT l) (sumC l + maxS l) w' (hE.gr g) i0 h hsh (by omega) (by omega)
 rw [hb1] at hln;have hQ:=sumC_bd hok;have hM:=maxS_bd hok;replace hsi:=Lib.hid hsi;replace hcg:=Lib.hid hcg;replace htk:=Lib.hid htk;replace hln:=Lib.hid hln;replace hQ:=Lib.hid hQ;replace hM:=Lib.hid hM;replace hok:=Lib.hid hok;replace hsh:=Lib.hid hsh;replace hb1:=Lib.hid hb1;replace h:=Lib.hid h;replace hg:=Lib.hid hg;go_enter Tryz.func170,Tryz.ntmps170;go_wp2_with fail;refine (hsi.out _).mono ?_;rintro e w0 ⟨rfl,g0⟩;obtain ⟨c0,f0,s0⟩:=g0.cells;try simp only [size_drewN] at c0 f0 s0
 try simp only [World.size_alloc] at c0 f0 s0
 try simp only [World.size_drew] at c0 f0 s0
 try simp only [World.size_setCell] at c0 f0 s0
 have z00:w.heap.size < w0.heap.size:=by omega
 have y00:w.heap.size≤w0.heap.size:=by omega
 have k00:=fun o => c0 (w.heap.size) o (by omega)
 have j00:=fun o => f0 (w.heap.size) o (by omega)
 have z01:w.heap.size + 1 < w0.heap.size:=by omega
 have k01:=fun o => c0 (w.heap.size + 1) o (by omega)
 have j01:=fun o => f0 (w.heap.size + 1) o (by omega)
 have gZ:Gr w w0:=(((Gr.refl w).alloc _).alloc _).trans g0;go_wp2_with fail;go_wp2_with fail;refine (hcg.out _ gZ).mono ?_;rintro e w1 ⟨rfl,g1⟩;obtain ⟨c1,f1,s1⟩:=g1.cells;try simp only [size_drewN] at c1 f1 s1
 try simp only [World.size_alloc] at c1 f1 s1
 try simp only [World.size_drew] at c1 f1 s1
 try simp only [World.size_setCell] at c1 f1 s1
 have z10:w.heap.size < w1.heap.size:=by omega
 have y10:w.heap.size≤w1.heap.size:=by omega
 have k10:=fun o => c1 (w.heap.size) o (by omega)
 have j10:=fun o => f1 (w.heap.size) o (by omega)
 have z11:w.heap.size + 1 < w1.heap.size:=by omega
 have k11:=fun o => c1 (w.heap.size + 1) o (by omega)
 have j11:=fun o => f1 (w.heap.size + 1) o (by omega)
 have gA:=gZ.trans g1;go_wp2_with fail;go_wp2_with fail;refine (htk.out _ gA).mono ?_;rintro e w2 ⟨rfl,g2⟩;obtain ⟨c2,f2,s2⟩:=g2.cells;try simp only [size_drewN] at c2 f2 s2
 try simp only [World.size_alloc] at c2 f2 s2
 try simp only [World.size_drew] at c2 f2 s2
 try simp only [World.size_setCell] at c2 f2 s2
 have z20:w.heap.size < w2.heap.size:=by omega
 have y20:w.heap.size≤w2.heap.size:=by omega
 have k20:=fun o => c2 (w.heap.size) o (by omega)
 have j20:=fun o => f2 (w.heap.size) o (by omega)
 have z21:w.heap.size + 1 < w2.heap.size:=by omega
 have k21:=fun o => c2 (w.heap.size + 1) o (by omega)
 have j21:=fun o => f2 (w.heap.size + 1) o (by omega)
 have gB:=gA.trans g2;go_wp2_with fail;go_loopw [62,15,16] (fun iv nv mv wr => ∃ k:Nat,k≤l.length∧iv = .int .i64 k∧nv = .int .i64 (sumC (l.take k))∧mv = .int .i64 (maxS (l.take k))∧Gr (w2.alloc (.cells #[.int .u64 (hiW (shareT l).1),.int .u64 (loW (shareT l).1),.int .u64 (hiW (shareT l).2),.int .u64 (loW (shareT l).2)] 195)) wr) (fun iv _ _ _ => l.length - (intOf iv).toNat);case atStart => exact ⟨0,Nat.zero_le _,rfl,rfl,rfl,Gr.refl _⟩
 case round =>
  obtain ⟨k,hk,rfl,rfl,rfl,hg⟩:=hrel;obtain ⟨cg,fg,sg⟩:=hg.cells;simp only [World.size_alloc] at cg fg sg;have k1:=fun o => cg w.heap.size o (by omega)
  have k2:=fun o => cg (w.heap.size + 1) o (by omega)
  have k3:=fun o => cg w2.heap.size o (by omega)
  clear cg fg;have gall:Gr w wr:=(gB.alloc _).trans hg;by_cases hlt:k < l.length
  ·obtain ⟨x,hx⟩:=get_some l k hlt;obtain ⟨b,off,rfl,hb,d0,d1,d2,d3⟩:=(hl.gr gall) k x hx;have hq1:=hQ.out k;have hq2:=hQ.out (k + 1);have hm1:=hM.out k;have hleg:=legT_mem hok.out hx;have hnext:sumC (l.take (k + 1)) = sumC (l.take k) + x.c:=by unfold sumC;rw [take_snoc hx,sumI_snoc]
   have hnext2:maxS (l.take (k + 1)) = max (maxS (l.take k)) x.s:=by rw [take_snoc hx,maxS_snoc]
   rw [hnext] at hq2;obtain ⟨q1,q2⟩:=hq1;obtain ⟨q3,q4⟩:=hq2;obtain ⟨m1,m2⟩:=hm1;obtain ⟨x1,x2,x3,x4,x5,x6⟩:=hleg;replace hnext:=Lib.hid hnext;replace hx:=Lib.hid hx;by_cases hmx:maxS (l.take k) < x.s
   ·have hn3:maxS (l.take (k + 1)) = x.s:=by omega
    clear hnext2;replace hn3:=Lib.hid hn3;go_wp2_with fail;go_roundw;case rel => exact ⟨k + 1,by omega,by go_num,by rw [hnext.out],by rw [hn3.out];first | rfl | go_num | (congr 1;omega),hg.trans ((Gr.refl _).alloc _)⟩
    case measure => simp [intOf];omega
   ·have hn3:maxS (l.take (k + 1)) = maxS (l.take k):=by omega
    clear hnext2;replace hn3:=Lib.hid hn3;go_wp2_with fail;go_roundw;case rel => exact ⟨k + 1,by omega,by go_num,by rw [hnext.out],by rw [hn3.out];first | rfl | go_num | (congr 1;omega),hg.trans ((Gr.refl _).alloc _)⟩
    case measure => simp [intOf];omega
  ·have hall:l.take k = l:=List.take_of_length_le (by omega);rw [hall];have hs1:IntKind.i64.wrap (sumC l + maxS l) = sumC l + maxS l:=by rw [IntKind.wrap_i64];omega
   go_wp2_with fail;have c0:wr.cell? ⟨w.heap.size,0,none⟩ = some (.int .i64 s.k):=by simp (maxDischargeDepth:=8) [go_sem, *]
   have c1:wr.cell? ⟨w.heap.size,1,none⟩ = some (.int .i64 s.q):=by simp (maxDischargeDepth:=8) [go_sem, *]
   have c2:wr.cell? ⟨w.heap.size,2,none⟩ = some (.int .i64 s.t):=by simp (maxDischargeDepth:=8) [go_sem, *]
   have c3:wr.cell? ⟨w.heap.size + 1,0,none⟩ = some (.slice a l.length c):=by simp (maxDischargeDepth:=8) [go_sem, *]
   have z1:w.heap.size < wr.heap.size:=by omega
   have z2:w.heap.size + 1 < wr.heap.size:=by omega
   have z3:w2.heap.size < wr.heap.size:=by omega
   have c4:wr.cell? ⟨w2.heap.size,0,none⟩ = some (.int .u64 (hiW (shareT l).1)):=by simp (maxDischargeDepth:=8) [go_sem, *]
   have c5:wr.cell? ⟨w2.heap.size,1,none⟩ = some (.int .u64 (loW (shareT l).1)):=by simp (maxDischargeDepth:=8) [go_sem, *]
   have c6:wr.cell? ⟨w2.heap.size,2,none⟩ = some (.int .u64 (hiW (shareT l).2)):=by simp (maxDischargeDepth:=8) [go_sem, *]
   have c7:wr.cell? ⟨w2.heap.size,3,none⟩ = some (.int .u64 (loW (shareT l).2)):=by simp (maxDischargeDepth:=8) [go_sem, *]
   have q0:=GrW.cell c0;have q1:=GrW.cell c1;have q2:=GrW.cell c2;have q4:=GrW.cell c4;have q5:=GrW.cell c5;have q6:=GrW.cell c6;have q7:=GrW.cell c7;refine wp_region_grows (by kernel_rfl) (by kernel_rfl) ?_;repeat (any_goals (first | go_big_quiet_step (first | (exact Calls.grows (hln.out _ (gall.trans (by exact GrW.gr _))))) | quiet_step (first | (exact Calls.grows (hln.out _ (gall.trans (by exact GrW.gr _)))))))
   refine wpQuiet_nil ?_;intro wp hwq;have gp:=GrW.of hwq;clear hwq;obtain ⟨cp,fp,sp⟩:=gp.cells;try simp only [size_drewN] at cp fp sp
   try simp only [World.size_alloc] at cp fp sp
   try simp only [World.size_drew] at cp fp sp
   try simp only [World.size_setCell] at cp fp sp
   have he:=(hE.gr (gall.trans gp)).c0 i1;go_wp2_with fail;go_ret;exact ⟨rfl,gall.trans gp⟩
set_option maxRecDepth 100000 in
set_option maxHeartbeats 6400000 in
theorem guestD_yes {G:List Nat} {E:Nat→Addr} (s:Srv) (a:Option Addr) (l:List Tsk) (c:Nat) (w:World) (hE:EAt G E w) (i0:9 ∈ G) (h:parOk s = true) (hl:TsksAt w a l) (hg:guestOk 1 l = true) (hb1:lineB s (shareT l) (sumC l + maxS l) = true) (hb2:fitsD s l = true) :
 Calls Tryz.prog 170 #[.agg #[.int .i64 s.k,.int .i64 s.q,.int .i64 s.t],.int .i64 1,.slice a l.length c] w fun e w' => e = .returned .nilIface∧Gr w w':=by
 have hsi:=fun w => silence_yes s w h
 have hcg:=fun w' (g:Gr w w') => checkGuest_yes 1 a l c w' (hl.gr g) hg
 obtain ⟨_,_,hok⟩:=(guestOk_iff 1 l).1 hg;have h8:=(tasksOk_parts hok).2;have htk:=fun w' (g:Gr w w') => tasks_yes a l c w' (hl.gr g) hok
 have hsh:=shr_shareT hok;have hq:=sumC_bd hok l.length;have hs:=maxS_bd hok l.length;rw [List.take_length] at hq hs;obtain ⟨hq1,hq2⟩:=hq;obtain ⟨hs1,hs2⟩:=hs;have hln:=fun w' (g:Gr w w') => line_any s (shareT l) (sumC l + maxS l) w' (hE.gr g) i0 h hsh (by omega) (by omega)
 rw [hb1] at hln;have hst:=fun w' (g:Gr w w') => deadlines_any a l c w' (hl.gr g) hok
 have hbl:=fun aL ls cL w' lb (g:Gr w w') h40 (hde:Deads l ls) hL hc => below_tasks s aL ls cL lb a l c w' h hL h40 (fun x hx => ⟨by have:=dead_pos hok ((hde x).1 hx).2;omega,by have:=((hde x).1 hx).1;omega⟩) (hl.gr g) (fun x hx => chkT_ok hok hx) hok hc
 have hbd:=fun ls (hde:Deads l ls) => below_deads (s:=s) hok hde
 rw [hb2] at hbd;have hbl2:∀ aL ls cL w' lb,Gr w w'→ls.length≤40000→Deads l ls→IntsAt w' aL ls→w'.cell? ⟨lb,0,none⟩ = some (.slice a l.length c)→Calls Tryz.prog 202 #[.agg #[.int .i64 s.k,.int .i64 s.q,.int .i64 s.t],.slice aL ls.length cL,.func (.func 213) #[] #[.pointer (some ⟨lb,0,none⟩)]] w' fun e w'' => e = .returned (.bool true)∧Gr w' w'':=fun aL ls cL w' lb g h40 hde hL hc => by
  have:=hbl aL ls cL w' lb g h40 hde hL hc;rw [hbd ls hde] at this;exact this
 clear hbl hbd;replace hst:=Lib.hid hst;replace hbl2:=Lib.hid hbl2;replace hb2:=Lib.hid hb2;have hQ:=sumC_bd hok;have hM:=maxS_bd hok;replace hsi:=Lib.hid hsi;replace hcg:=Lib.hid hcg;replace htk:=Lib.hid htk;replace hln:=Lib.hid hln;replace hQ:=Lib.hid hQ;replace hM:=Lib.hid hM;replace hok:=Lib.hid hok;replace hsh:=Lib.hid hsh;replace hb1:=Lib.hid hb1;replace h:=Lib.hid h;replace hg:=Lib.hid hg;go_enter Tryz.func170,Tryz.ntmps170;go_wp2_with fail;refine (hsi.out _).mono ?_;rintro e w0 ⟨rfl,g0⟩;obtain ⟨c0,f0,s0⟩:=g0.cells;try simp only [size_drewN] at c0 f0 s0
 try simp only [World.size_alloc] at c0 f0 s0
 try simp only [World.size_drew] at c0 f0 s0
 try simp only [World.size_setCell] at c0 f0 s0
 have z00:w.heap.size < w0.heap.size:=by omega
 have y00:w.heap.size≤w0.heap.size:=by omega
 have k00:=fun o => c0 (w.heap.size) o (by omega)
 have j00:=fun o => f0 (w.heap.size) o (by omega)
 have z01:w.heap.size + 1 < w0.heap.size:=by omega
 have k01:=fun o => c0 (w.heap.size + 1) o (by omega)
 have j01:=fun o => f0 (w.heap.size + 1) o (by omega)
 have gZ:Gr w w0:=(((Gr.refl w).alloc _).alloc _).trans g0;go_wp2_with fail;go_wp2_with fail;refine (hcg.out _ gZ).mono ?_;rintro e w1 ⟨rfl,g1⟩;obtain ⟨c1,f1,s1⟩:=g1.cells;try simp only [size_drewN] at c1 f1 s1
 try simp only [World.size_alloc] at c1 f1 s1
 try simp only [World.size_drew] at c1 f1 s1
 try simp only [World.size_setCell] at c1 f1 s1
 have z10:w.heap.size < w1.heap.size:=by omega
 have y10:w.heap.size≤w1.heap.size:=by omega
 have k10:=fun o => c1 (w.heap.size) o (by omega)
 have j10:=fun o => f1 (w.heap.size) o (by omega)
 have z11:w.heap.size + 1 < w1.heap.size:=by omega
 have k11:=fun o => c1 (w.heap.size + 1) o (by omega)
 have j11:=fun o => f1 (w.heap.size + 1) o (by omega)
 have gA:=gZ.trans g1;go_wp2_with fail;go_wp2_with fail;refine (htk.out _ gA).mono ?_;rintro e w2 ⟨rfl,g2⟩;obtain ⟨c2,f2,s2⟩:=g2.cells;try simp only [size_drewN] at c2 f2 s2
 try simp only [World.size_alloc] at c2 f2 s2
 try simp only [World.size_drew] at c2 f2 s2
 try simp only [World.size_setCell] at c2 f2 s2
 have z20:w.heap.size < w2.heap.size:=by omega
 have y20:w.heap.size≤w2.heap.size:=by omega
 have k20:=fun o => c2 (w.heap.size) o (by omega)
 have j20:=fun o => f2 (w.heap.size) o (by omega)
 have z21:w.heap.size + 1 < w2.heap.size:=by omega
 have k21:=fun o => c2 (w.heap.size + 1) o (by omega)
 have j21:=fun o => f2 (w.heap.size + 1) o (by omega)
 have gB:=gA.trans g2;go_wp2_with fail;go_loopw [62,15,16] (fun iv nv mv wr => ∃ k:Nat,k≤l.length∧iv = .int .i64 k∧nv = .int .i64 (sumC (l.take k))∧mv = .int .i64 (maxS (l.take k))∧Gr (w2.alloc (.cells #[.int .u64 (hiW (shareT l).1),.int .u64 (loW (shareT l).1),.int .u64 (hiW (shareT l).2),.int .u64 (loW (shareT l).2)] 195)) wr) (fun iv _ _ _ => l.length - (intOf iv).toNat);case atStart => exact ⟨0,Nat.zero_le _,rfl,rfl,rfl,Gr.refl _⟩
 case round =>
  obtain ⟨k,hk,rfl,rfl,rfl,hg⟩:=hrel;obtain ⟨cg,fg,sg⟩:=hg.cells;simp only [World.size_alloc] at cg fg sg;have k1:=fun o => cg w.heap.size o (by omega)
  have k2:=fun o => cg (w.heap.size + 1) o (by omega)
  have k3:=fun o => cg w2.heap.size o (by omega)
  clear cg fg;have gall:Gr w wr:=(gB.alloc _).trans hg;by_cases hlt:k < l.length
  ·obtain ⟨x,hx⟩:=get_some l k hlt;obtain ⟨b,off,rfl,hb,d0,d1,d2,d3⟩:=(hl.gr gall) k x hx;have hq1:=hQ.out k;have hq2:=hQ.out (k + 1);have hm1:=hM.out k;have hleg:=legT_mem hok.out hx;have hnext:sumC (l.take (k + 1)) = sumC (l.take k) + x.c:=by unfold sumC;rw [take_snoc hx,sumI_snoc]
   have hnext2:maxS (l.take (k + 1)) = max (maxS (l.take k)) x.s:=by rw [take_snoc hx,maxS_snoc]
   rw [hnext] at hq2;obtain ⟨q1,q2⟩:=hq1;obtain ⟨q3,q4⟩:=hq2;obtain ⟨m1,m2⟩:=hm1;obtain ⟨x1,x2,x3,x4,x5,x6⟩:=hleg;replace hnext:=Lib.hid hnext;replace hx:=Lib.hid hx;by_cases hmx:maxS (l.take k) < x.s
   ·have hn3:maxS (l.take (k + 1)) = x.s:=by omega
    clear hnext2;replace hn3:=Lib.hid hn3;go_wp2_with fail;go_roundw;case rel => exact ⟨k + 1,by omega,by go_num,by rw [hnext.out],by rw [hn3.out];first | rfl | go_num | (congr 1;omega),hg.trans ((Gr.refl _).alloc _)⟩
    case measure => simp [intOf];omega
   ·have hn3:maxS (l.take (k + 1)) = maxS (l.take k):=by omega
    clear hnext2;replace hn3:=Lib.hid hn3;go_wp2_with fail;go_roundw;case rel => exact ⟨k + 1,by omega,by go_num,by rw [hnext.out],by rw [hn3.out];first | rfl | go_num | (congr 1;omega),hg.trans ((Gr.refl _).alloc _)⟩
    case measure => simp [intOf];omega
  ·have hall:l.take k = l:=List.take_of_length_le (by omega);rw [hall];have hs1:IntKind.i64.wrap (sumC l + maxS l) = sumC l + maxS l:=by rw [IntKind.wrap_i64];omega
   go_wp2_with fail;have c0:wr.cell? ⟨w.heap.size,0,none⟩ = some (.int .i64 s.k):=by simp (maxDischargeDepth:=8) [go_sem, *]
   have c1:wr.cell? ⟨w.heap.size,1,none⟩ = some (.int .i64 s.q):=by simp (maxDischargeDepth:=8) [go_sem, *]
   have c2:wr.cell? ⟨w.heap.size,2,none⟩ = some (.int .i64 s.t):=by simp (maxDischargeDepth:=8) [go_sem, *]
   have c3:wr.cell? ⟨w.heap.size + 1,0,none⟩ = some (.slice a l.length c):=by simp (maxDischargeDepth:=8) [go_sem, *]
   have z1:w.heap.size < wr.heap.size:=by omega
   have z2:w.heap.size + 1 < wr.heap.size:=by omega
   have z3:w2.heap.size < wr.heap.size:=by omega
   go_region_held3 (fun w' => w'.cell? ⟨w.heap.size,0,none⟩ = some (.int .i64 s.k)∧w'.cell? ⟨w.heap.size,1,none⟩ = some (.int .i64 s.q)∧w'.cell? ⟨w.heap.size,2,none⟩ = some (.int .i64 s.t)∧w'.cell? ⟨w.heap.size + 1,0,none⟩ = some (.slice a l.length c)∧w'.cell? ⟨w2.heap.size,0,none⟩ = some (.int .u64 (hiW (shareT l).1))∧w'.cell? ⟨w2.heap.size,1,none⟩ = some (.int .u64 (loW (shareT l).1))∧w'.cell? ⟨w2.heap.size,2,none⟩ = some (.int .u64 (hiW (shareT l).2))∧w'.cell? ⟨w2.heap.size,3,none⟩ = some (.int .u64 (loW (shareT l).2))) (simp (maxDischargeDepth:=8) [go_sem, *])
    (first
     | (go_at_call 201;(with_reducible refine (hln.out _ (gall.drew)).mono ?_);rintro e w4 ⟨rfl,g4⟩;obtain ⟨c4,f4,s4⟩:=g4.cells;simp only [World.size_drew] at c4 f4 s4;have k4:=fun o => c4 w.heap.size o (by omega);have k5:=fun o => c4 (w.heap.size + 1) o (by omega);have k6:=fun o => c4 w2.heap.size o (by omega);clear c4 f4;have gall4:=(gall.drew).trans g4;replace gall4:=Lib.hid gall4)
     | (go_at_call 215;(with_reducible refine (hst.out _ gall4.out).mono ?_);rintro e w5 ⟨aS,lS,cS,rfl,hS4,hSd,hS,g5⟩;obtain ⟨c5,f5,s5⟩:=g5.cells;have k7:=fun o => c5 w.heap.size o (by omega);have k8:=fun o => c5 (w.heap.size + 1) o (by omega);have k9:=fun o => c5 w2.heap.size o (by omega);clear c5 f5;have gall5:=gall4.out.trans g5;replace gall5:=Lib.hid gall5;replace hS:=Lib.hid hS;replace hSd:=Lib.hid hSd;replace hS4:=Lib.hid hS4)
     | (go_at_call 202;(with_reducible refine (hbl2.out aS lS cS _ (w.heap.size + 1) gall5.out hS4.out hSd.out hS.out (by simp (maxDischargeDepth:=8) [go_sem, *])).mono ?_);rintro e w6 ⟨rfl,g6⟩;obtain ⟨c6,f6,s6⟩:=g6.cells;have k10:=fun o => c6 w.heap.size o (by omega);have k11:=fun o => c6 (w.heap.size + 1) o (by omega);have k12:=fun o => c6 w2.heap.size o (by omega);clear c6 f6;have gall6:=gall5.out.trans g6;replace gall6:=Lib.hid gall6)
     | fail)
   all_goals go_wp2_with fail
   all_goals go_ret
   all_goals exact ⟨rfl,gall6.out⟩
set_option maxRecDepth 100000 in
set_option maxHeartbeats 6400000 in
theorem guestD_over {G:List Nat} {E:Nat→Addr} (s:Srv) (a:Option Addr) (l:List Tsk) (c:Nat) (w:World) (hE:EAt G E w) (i0:9 ∈ G) (i1:11 ∈ G) (h:parOk s = true) (hl:TsksAt w a l) (hg:guestOk 1 l = true) (hb1:lineB s (shareT l) (sumC l + maxS l) = true) (hb2:fitsD s l = false) :
 Calls Tryz.prog 170 #[.agg #[.int .i64 s.k,.int .i64 s.q,.int .i64 s.t],.int .i64 1,.slice a l.length c] w fun e w' => e = .returned (Value.iface 384 (.pointer (some (E 11))))∧Gr w w':=by
 have hsi:=fun w => silence_yes s w h
 have hcg:=fun w' (g:Gr w w') => checkGuest_yes 1 a l c w' (hl.gr g) hg
 obtain ⟨_,_,hok⟩:=(guestOk_iff 1 l).1 hg;have h8:=(tasksOk_parts hok).2;have htk:=fun w' (g:Gr w w') => tasks_yes a l c w' (hl.gr g) hok
 have hsh:=shr_shareT hok;have hq:=sumC_bd hok l.length;have hs:=maxS_bd hok l.length;rw [List.take_length] at hq hs;obtain ⟨hq1,hq2⟩:=hq;obtain ⟨hs1,hs2⟩:=hs;have hln:=fun w' (g:Gr w w') => line_any s (shareT l) (sumC l + maxS l) w' (hE.gr g) i0 h hsh (by omega) (by omega)
 rw [hb1] at hln;have hst:=fun w' (g:Gr w w') => deadlines_any a l c w' (hl.gr g) hok
 have hbl:=fun aL ls cL w' lb (g:Gr w w') h40 (hde:Deads l ls) hL hc => below_tasks s aL ls cL lb a l c w' h hL h40 (fun x hx => ⟨by have:=dead_pos hok ((hde x).1 hx).2;omega,by have:=((hde x).1 hx).1;omega⟩) (hl.gr g) (fun x hx => chkT_ok hok hx) hok hc
 have hbd:=fun ls (hde:Deads l ls) => below_deads (s:=s) hok hde
 rw [hb2] at hbd;have hbl2:∀ aL ls cL w' lb,Gr w w'→ls.length≤40000→Deads l ls→IntsAt w' aL ls→w'.cell? ⟨lb,0,none⟩ = some (.slice a l.length c)→Calls Tryz.prog 202 #[.agg #[.int .i64 s.k,.int .i64 s.q,.int .i64 s.t],.slice aL ls.length cL,.func (.func 213) #[] #[.pointer (some ⟨lb,0,none⟩)]] w' fun e w'' => e = .returned (.bool false)∧Gr w' w'':=fun aL ls cL w' lb g h40 hde hL hc => by
  have:=hbl aL ls cL w' lb g h40 hde hL hc;rw [hbd ls hde] at this;exact this
 clear hbl hbd;replace hst:=Lib.hid hst;replace hbl2:=Lib.hid hbl2;replace hb2:=Lib.hid hb2;have hQ:=sumC_bd hok;have hM:=maxS_bd hok;replace hsi:=Lib.hid hsi;replace hcg:=Lib.hid hcg;replace htk:=Lib.hid htk;replace hln:=Lib.hid hln;replace hQ:=Lib.hid hQ;replace hM:=Lib.hid hM;replace hok:=Lib.hid hok;replace hsh:=Lib.hid hsh;replace hb1:=Lib.hid hb1;replace h:=Lib.hid h;replace hg:=Lib.hid hg;go_enter Tryz.func170,Tryz.ntmps170;go_wp2_with fail;refine (hsi.out _).mono ?_;rintro e w0 ⟨rfl,g0⟩;obtain ⟨c0,f0,s0⟩:=g0.cells;try simp only [size_drewN] at c0 f0 s0
 try simp only [World.size_alloc] at c0 f0 s0
 try simp only [World.size_drew] at c0 f0 s0
 try simp only [World.size_setCell] at c0 f0 s0
 have z00:w.heap.size < w0.heap.size:=by omega
 have y00:w.heap.size≤w0.heap.size:=by omega
 have k00:=fun o => c0 (w.heap.size) o (by omega)
 have j00:=fun o => f0 (w.heap.size) o (by omega)
 have z01:w.heap.size + 1 < w0.heap.size:=by omega
 have k01:=fun o => c0 (w.heap.size + 1) o (by omega)
 have j01:=fun o => f0 (w.heap.size + 1) o (by omega)
 have gZ:Gr w w0:=(((Gr.refl w).alloc _).alloc _).trans g0;go_wp2_with fail;go_wp2_with fail;refine (hcg.out _ gZ).mono ?_;rintro e w1 ⟨rfl,g1⟩;obtain ⟨c1,f1,s1⟩:=g1.cells;try simp only [size_drewN] at c1 f1 s1
 try simp only [World.size_alloc] at c1 f1 s1
 try simp only [World.size_drew] at c1 f1 s1
 try simp only [World.size_setCell] at c1 f1 s1
 have z10:w.heap.size < w1.heap.size:=by omega
 have y10:w.heap.size≤w1.heap.size:=by omega
 have k10:=fun o => c1 (w.heap.size) o (by omega)
 have j10:=fun o => f1 (w.heap.size) o (by omega)
 have z11:w.heap.size + 1 < w1.heap.size:=by omega
 have k11:=fun o => c1 (w.heap.size + 1) o (by omega)
 have j11:=fun o => f1 (w.heap.size + 1) o (by omega)
 have gA:=gZ.trans g1;go_wp2_with fail;go_wp2_with fail;refine (htk.out _ gA).mono ?_;rintro e w2 ⟨rfl,g2⟩;obtain ⟨c2,f2,s2⟩:=g2.cells;try simp only [size_drewN] at c2 f2 s2
 try simp only [World.size_alloc] at c2 f2 s2
 try simp only [World.size_drew] at c2 f2 s2
 try simp only [World.size_setCell] at c2 f2 s2
 have z20:w.heap.size < w2.heap.size:=by omega
 have y20:w.heap.size≤w2.heap.size:=by omega
 have k20:=fun o => c2 (w.heap.size) o (by omega)
 have j20:=fun o => f2 (w.heap.size) o (by omega)
 have z21:w.heap.size + 1 < w2.heap.size:=by omega
 have k21:=fun o => c2 (w.heap.size + 1) o (by omega)
 have j21:=fun o => f2 (w.heap.size + 1) o (by omega)
 have gB:=gA.trans g2;go_wp2_with fail;go_loopw [62,15,16] (fun iv nv mv wr => ∃ k:Nat,k≤l.length∧iv = .int .i64 k∧nv = .int .i64 (sumC (l.take k))∧mv = .int .i64 (maxS (l.take k))∧Gr (w2.alloc (.cells #[.int .u64 (hiW (shareT l).1),.int .u64 (loW (shareT l).1),.int .u64 (hiW (shareT l).2),.int .u64 (loW (shareT l).2)] 195)) wr) (fun iv _ _ _ => l.length - (intOf iv).toNat);case atStart => exact ⟨0,Nat.zero_le _,rfl,rfl,rfl,Gr.refl _⟩
 case round =>
  obtain ⟨k,hk,rfl,rfl,rfl,hg⟩:=hrel;obtain ⟨cg,fg,sg⟩:=hg.cells;simp only [World.size_alloc] at cg fg sg;have k1:=fun o => cg w.heap.size o (by omega)
  have k2:=fun o => cg (w.heap.size + 1) o (by omega)
  have k3:=fun o => cg w2.heap.size o (by omega)
  clear cg fg;have gall:Gr w wr:=(gB.alloc _).trans hg;by_cases hlt:k < l.length
  ·obtain ⟨x,hx⟩:=get_some l k hlt;obtain ⟨b,off,rfl,hb,d0,d1,d2,d3⟩:=(hl.gr gall) k x hx;have hq1:=hQ.out k;have hq2:=hQ.out (k + 1);have hm1:=hM.out k;have hleg:=legT_mem hok.out hx;have hnext:sumC (l.take (k + 1)) = sumC (l.take k) + x.c:=by unfold sumC;rw [take_snoc hx,sumI_snoc]
   have hnext2:maxS (l.take (k + 1)) = max (maxS (l.take k)) x.s:=by rw [take_snoc hx,maxS_snoc]
   rw [hnext] at hq2;obtain ⟨q1,q2⟩:=hq1;obtain ⟨q3,q4⟩:=hq2;obtain ⟨m1,m2⟩:=hm1;obtain ⟨x1,x2,x3,x4,x5,x6⟩:=hleg;replace hnext:=Lib.hid hnext;replace hx:=Lib.hid hx;by_cases hmx:maxS (l.take k) < x.s
   ·have hn3:maxS (l.take (k + 1)) = x.s:=by omega
    clear hnext2;replace hn3:=Lib.hid hn3;go_wp2_with fail;go_roundw;case rel => exact ⟨k + 1,by omega,by go_num,by rw [hnext.out],by rw [hn3.out];first | rfl | go_num | (congr 1;omega),hg.trans ((Gr.refl _).alloc _)⟩
    case measure => simp [intOf];omega
   ·have hn3:maxS (l.take (k + 1)) = maxS (l.take k):=by omega
    clear hnext2;replace hn3:=Lib.hid hn3;go_wp2_with fail;go_roundw;case rel => exact ⟨k + 1,by omega,by go_num,by rw [hnext.out],by rw [hn3.out];first | rfl | go_num | (congr 1;omega),hg.trans ((Gr.refl _).alloc _)⟩
    case measure => simp [intOf];omega
  ·have hall:l.take k = l:=List.take_of_length_le (by omega);rw [hall];have hs1:IntKind.i64.wrap (sumC l + maxS l) = sumC l + maxS l:=by rw [IntKind.wrap_i64];omega
   go_wp2_with fail;have c0:wr.cell? ⟨w.heap.size,0,none⟩ = some (.int .i64 s.k):=by simp (maxDischargeDepth:=8) [go_sem, *]
   have c1:wr.cell? ⟨w.heap.size,1,none⟩ = some (.int .i64 s.q):=by simp (maxDischargeDepth:=8) [go_sem, *]
   have c2:wr.cell? ⟨w.heap.size,2,none⟩ = some (.int .i64 s.t):=by simp (maxDischargeDepth:=8) [go_sem, *]
   have c3:wr.cell? ⟨w.heap.size + 1,0,none⟩ = some (.slice a l.length c):=by simp (maxDischargeDepth:=8) [go_sem, *]
   have z1:w.heap.size < wr.heap.size:=by omega
   have z2:w.heap.size + 1 < wr.heap.size:=by omega
   have z3:w2.heap.size < wr.heap.size:=by omega
   go_region_held3 (fun w' => w'.cell? ⟨w.heap.size,0,none⟩ = some (.int .i64 s.k)∧w'.cell? ⟨w.heap.size,1,none⟩ = some (.int .i64 s.q)∧w'.cell? ⟨w.heap.size,2,none⟩ = some (.int .i64 s.t)∧w'.cell? ⟨w.heap.size + 1,0,none⟩ = some (.slice a l.length c)∧w'.cell? ⟨w2.heap.size,0,none⟩ = some (.int .u64 (hiW (shareT l).1))∧w'.cell? ⟨w2.heap.size,1,none⟩ = some (.int .u64 (loW (shareT l).1))∧w'.cell? ⟨w2.heap.size,2,none⟩ = some (.int .u64 (hiW (shareT l).2))∧w'.cell? ⟨w2.heap.size,3,none⟩ = some (.int .u64 (loW (shareT l).2))) (simp (maxDischargeDepth:=8) [go_sem, *])
    (first
     | (go_at_call 201;(with_reducible refine (hln.out _ (gall.drew)).mono ?_);rintro e w4 ⟨rfl,g4⟩;obtain ⟨c4,f4,s4⟩:=g4.cells;simp only [World.size_drew] at c4 f4 s4;have k4:=fun o => c4 w.heap.size o (by omega);have k5:=fun o => c4 (w.heap.size + 1) o (by omega);have k6:=fun o => c4 w2.heap.size o (by omega);clear c4 f4;have gall4:=(gall.drew).trans g4;replace gall4:=Lib.hid gall4)
     | (go_at_call 215;(with_reducible refine (hst.out _ gall4.out).mono ?_);rintro e w5 ⟨aS,lS,cS,rfl,hS4,hSd,hS,g5⟩;obtain ⟨c5,f5,s5⟩:=g5.cells;have k7:=fun o => c5 w.heap.size o (by omega);have k8:=fun o => c5 (w.heap.size + 1) o (by omega);have k9:=fun o => c5 w2.heap.size o (by omega);clear c5 f5;have gall5:=gall4.out.trans g5;replace gall5:=Lib.hid gall5;replace hS:=Lib.hid hS;replace hSd:=Lib.hid hSd;replace hS4:=Lib.hid hS4)
     | (go_at_call 202;(with_reducible refine (hbl2.out aS lS cS _ (w.heap.size + 1) gall5.out hS4.out hSd.out hS.out (by simp (maxDischargeDepth:=8) [go_sem, *])).mono ?_);rintro e w6 ⟨rfl,g6⟩;obtain ⟨c6,f6,s6⟩:=g6.cells;have k10:=fun o => c6 w.heap.size o (by omega);have k11:=fun o => c6 (w.heap.size + 1) o (by omega);have k12:=fun o => c6 w2.heap.size o (by omega);clear c6 f6;have gall6:=gall5.out.trans g6;replace gall6:=Lib.hid gall6)
     | fail)
   all_goals (have he:=(hE.gr gall6.out).c0 i1)
   all_goals go_wp2_with fail
   all_goals go_ret
   all_goals exact ⟨rfl,gall6.out⟩
end Go.Proofs.YtdfelohjdkcpkaaGreatDoor
namespace Go.Proofs.YtdfelohjdkcpkaaGreatDoor
open Go.RowKit
end Go.Proofs.YtdfelohjdkcpkaaGreatDoor
namespace Go.Proofs.YtdfelohjdkcpkaaGreatDoor
open Go.RowKit
theorem step_append_recs {α:Type} {k:Nat} {enc:α→List Value} {P:Program} {ops:Array Oper} {o:Oper} {a:Act} {w:World} {K:Act→World→Prop} {Q:Exit→Act→World→Prop} {E:Prop} (hgd:o.guard = none) (s x:Operand) (t:TypeId)
 (ho:o.op = .call { callee:=.builtin .append,args:=#[s,x],argTypes:=#[t,t] })
 (base:Nat) (e:TypeId) (i:TypeInfo) (z:Value) (bytes:Nat) (ht:P.underlying t = some (.slice e)) (hi:P.info? e = some i) (hz:i.zero = some z)
 (hsize:i.size = k) (hby:i.bytes = bytes) (hzs:z.cells.size = k) (hsz:0 < k)
 (hk:∀ s,(enc s).length = k) (h1:∀ s,∀ u ∈ enc s,u.oneCell' = true)
 (v:Value) (l0:List α) (hs:a.eval s = v) (hown:w.ownsRow base e k v l0.length (l0.flatMap enc))
 (ad:Addr) (m c:Nat) (l:List α) (hm:l.length = m) (hx:a.eval x = .slice (some ad) m c) (hl:RecsAt k enc w (some ad) l)
 (h63:l0.length + m≤maxLen) (hbytes:(l0.length + m) * bytes≤140737488355328) (hbase:base≤w.heap.size)
 (h:∀ v' w',w'.ownsRow base e k v' (l0 ++ l).length ((l0 ++ l).flatMap enc)→w.grownBy w' v.ownBlock→K (a.put o.dst v') w') :
 if Region.wanted o (yielded ops a.tmps) = true then Oper.wp P o a w K Q else E:=by
 subst hm;have hw:Region.wanted o (yielded ops a.tmps) = true:=by simp [Region.wanted,hgd]
 rw [if_pos hw];refine wp_append_own w s x t ho base e i z k bytes ht hi hz hsize hby hzs hsz v l0.length (l0.flatMap enc) hs hown ad l.length c (l.flatMap enc) hx (flat_len hk l) ?_ ?_ h63 hbytes hbase ?_
 ·intro j u hj;obtain ⟨y,hy,hu⟩:=flat_at hk hsz l j u hj;obtain ⟨b,off,hh,_,hcell⟩:=hl _ y hy;obtain rfl:=Option.some.inj hh;have:=hcell _ u hu;have e1:off + j / k * k + j % k = off + j:=by rw [Nat.add_assoc,Nat.mul_comm,Nat.div_add_mod]
  rw [e1] at this;unfold Addr.add;by_cases hj0:j = 0
  ·subst hj0;simpa using this
  ·simpa [hj0] using this
 ·intro u hu;obtain ⟨y,_,hy⟩:=List.mem_flatMap.1 hu;exact h1 y u hy
 ·intro v' w' ho' hg' _;exact h v' w' (by simpa using ho') hg'
end Go.Proofs.YtdfelohjdkcpkaaGreatDoor
namespace Go.Proofs.YtdfelohjdkcpkaaGreatDoor
open Go.RowKit
end Go.Proofs.YtdfelohjdkcpkaaGreatDoor
namespace Go.Proofs.YtdfelohjdkcpkaaGreatDoor
open Go.RowKit
def reqsI (l:List Srv) (n:Int):Int:=sumI (fun s => reqI s n) l
theorem req_line {x:Srv} (hx:Leg x) (n:Int):reqI x n * x.t≤x.q * n + x.q * (2 * x.t):=by
 obtain ⟨_,_,h3,h4,h5⟩:=hx;have h1:=Int.ediv_mul_le (n + x.t - 1) (show x.t ≠ 0 by omega);have h2:x.q * (upI n x.t * x.t)≤x.q * (n + x.t):=Int.mul_le_mul_of_nonneg_left (by unfold upI;omega) (by omega);have h6:0≤x.q * x.t:=Int.mul_nonneg (by omega) (by omega);have e1:upI n x.t * x.q * x.t = x.q * (upI n x.t * x.t):=by rw [Int.mul_comm (upI n x.t) x.q,Int.mul_assoc]
 have e2:x.q * (n + x.t) = x.q * n + x.q * x.t:=Int.mul_add ..;have e3:x.q * (2 * x.t) = x.q * x.t + x.q * x.t:=by rw [Int.mul_left_comm];omega
 unfold reqI;split
 ·rw [Int.add_mul,e1,e3];omega
 ·rw [e1,e3];omega
theorem reqs_line (n:Int):∀ (l:List Srv),allLeg l = true→(shareS l).2 * reqsI l n≤(shareS l).1 * n + (shareS l).2 * (2 * sumQ l):=by
 have key:∀ (k:Nat) (l:List Srv),l.length = k→allLeg l = true→(shareS l).2 * reqsI l n≤(shareS l).1 * n + (shareS l).2 * (2 * sumQ l)∧0≤(shareS l).2:=by
  intro k;induction k with
  | zero =>
   intro l hl _;obtain rfl:=List.length_eq_zero_iff.1 hl;simp [shareS,reqsI,sumQ,sumI]
  | succ k ih =>
   intro l hl hal;obtain ⟨m,x,rfl⟩:∃ m x,l = m ++ [x]:=by
    have hne:l ≠ []:=fun e => by rw [e] at hl;cases hl
    exact ⟨l.dropLast,l.getLast hne,(List.dropLast_concat_getLast hne).symm⟩
   rw [allLeg_snoc,Bool.and_eq_true] at hal;obtain ⟨h1,h2⟩:=ih m (by simpa using hl) hal.1;have hx:=(Srv.leg_iff x).1 hal.2;have h3:=req_line hx n;obtain ⟨_,_,x3,x4,x5⟩:=hx;have e1:reqsI (m ++ [x]) n = reqsI m n + reqI x n:=sumI_snoc _ m x;have e2:sumQ (m ++ [x]) = sumQ m + x.q:=sumI_snoc _ m x;rw [shareS_snoc,e1,e2];simp only [plusP];have a1:=Int.mul_le_mul_of_nonneg_left h1 (show 0≤x.t by omega);have a2:=Int.mul_le_mul_of_nonneg_left h3 h2;refine ⟨?_,Int.mul_nonneg h2 (by omega)⟩;have b1:(shareS m).2 * x.t * (reqsI m n + reqI x n) = x.t * ((shareS m).2 * reqsI m n) + (shareS m).2 * (reqI x n * x.t):=by
    rw [Int.mul_add,Int.mul_assoc,Int.mul_assoc,Int.mul_comm x.t (reqI x n),Int.mul_left_comm]
   have b2:((shareS m).1 * x.t + (shareS m).2 * x.q) * n + (shareS m).2 * x.t * (2 * (sumQ m + x.q)) = x.t * ((shareS m).1 * n + (shareS m).2 * (2 * sumQ m)) + (shareS m).2 * (x.q * n + x.q * (2 * x.t)):=by
    simp only [Int.add_mul,Int.mul_add,Int.mul_assoc,Int.mul_comm,Int.mul_left_comm];omega
   rw [b1,b2];omega
 intro l hal;exact (key l.length l rfl hal).1
theorem drain_some {s:Srv} {l:List Srv} (h:kidsErr s l = none):reqsI l 4096≤givI (rowI s) 4096:=by
 obtain ⟨hp,hs,hl,hb⟩:=kids_parts h;obtain ⟨hal,h8⟩:=srvErr_none hs;have hd:=reqs_line 4096 l hal;exact line_beyond (n:=4096) hp (srvErr_shr hs) hl (by omega) hd
end Go.Proofs.YtdfelohjdkcpkaaGreatDoor
namespace Go.Proofs.YtdfelohjdkcpkaaGreatDoor
open Go.RowKit
def drainI (s:Srv) (l:List Srv):Nat:=(((List.range 4096).find? fun (k:Nat) => decide (reqsI l ((k:Int) + 1)≤givI (rowI s) ((k:Int) + 1))).map (· + 1)).getD 4096
theorem drainI_of {s:Srv} {l:List Srv} {d:Nat} (h1:1≤d) (h2:d≤4096) (h3:reqsI l d≤givI (rowI s) d) (h4:∀ k:Nat,1≤k→k < d→¬ reqsI l k≤givI (rowI s) k):drainI s l = d:=by
 obtain ⟨n,rfl⟩:∃ n,d = n + 1:=⟨d - 1,by omega⟩
 have h5:(List.range 4096).find? (fun (k:Nat) => decide (reqsI l ((k:Int) + 1)≤givI (rowI s) ((k:Int) + 1))) = some n:=by
  rw [List.find?_range_eq_some];refine ⟨by simpa using h3,by simp;omega,fun j hj => ?_⟩;have:=h4 (j + 1) (by omega) (by omega);simpa using this
 unfold drainI;rw [h5];rfl
def guestErr (s:Srv) (p:Int) (l:List Tsk):Option Nat:=if parOk s = false then some 9 else if guestOk p l = false then some 10 else if p = 2 then (if fitsO s l = false then some 11 else none) else if lineB s (shareT l) (sumC l + maxS l) = false then some 11 else if fitsD s l = false then some 11 else none
abbrev rootS:Srv:=⟨0,0,0⟩
def TreeV.find (t:TreeV) (id:Int):Option Nd:=t.nodes.find? fun n => decide (n.id = id)
def TreeV.counted (t:TreeV) (id:Int):List Srv:=(t.nodes.filter fun n => decide (n.par = id)).map (·.srv) ++ (t.ghosts.filter fun g => decide (g.par = id)).map (·.srv)
def TreeV.server (t:TreeV) (id:Int):Option Srv:=if id = 0 then some rootS else (t.find id).map (·.srv)
def TreeV.depthF (t:TreeV):Nat→Int→Int→Int
 | 0,_,_ => -1
 | n + 1,id,d => if id = 0 then d else match t.find id with
  | none => -1
  | some x => t.depthF n x.par (d + 1)
def TreeV.depth (t:TreeV) (id:Int):Int:=t.depthF (id.toNat + 1) id 0
def TreeV.drained (t:TreeV) (p:Int):TreeV :=
 let s:=(t.server p).getD rootS
 if kidsErr s (t.counted p) = none then {t with ghosts:=t.ghosts.map fun g => if g.par = p then {g with till:=max g.till (t.now + drainI s (t.counted p))} else g} else t
structure OrdV where
 kd:Int
 id:Int
 srv:Srv
 pol:Int
 tasks:List Tsk
 at_:Int
def TreeV.loose (t:TreeV) (id:Int):Int:=match t.find id with
 | none => 1
 | some _ => if t.counted id ≠ [] then 2 else 0
def TreeV.create (t:TreeV) (o:OrdV):TreeV × Int × Int :=
 if o.srv.leg = false then (t,7,0) else match t.server o.id with
 | none => (t,1,0)
 | some s => if ((t.find o.id).map (·.pol)).getD 0 ≠ 0 then (t,3,0) else if 4≤t.depth o.id then (t,6,0) else
  if 64≤t.nodes.length ∨ 8≤(t.counted o.id).length then (t,5,0) else
  if kidsErr s (t.counted o.id ++ [o.srv]) ≠ none then (t,4,0) else
  (({t with last:=t.last + 1,nodes:=t.nodes ++ [(⟨t.last + 1,o.id,o.srv,0,[]⟩:Nd)]}).drained o.id,0,t.last + 1)
def setNd (l:List Nd) (id:Int) (f:Nd→Nd):List Nd:=l.map fun n => if n.id = id then f n else n
def TreeV.resize (t:TreeV) (o:OrdV):TreeV × Int × Int :=
 if o.srv.leg = false then (t,7,0) else if t.loose o.id ≠ 0 then (t,t.loose o.id,0) else match t.find o.id with
 | none => (t,1,0)
 | some n => if n.pol ≠ 0 then (t,3,0) else
  let s:=(t.server n.par).getD rootS
  if 8≤(t.counted n.par).length then (t,5,0) else
  if kidsErr s (t.counted n.par ++ [o.srv]) ≠ none then (t,4,0) else
  (({t with nodes:=setNd t.nodes o.id fun n => {n with srv:=o.srv},ghosts:=t.ghosts ++ [(⟨n.par,n.srv,0⟩:Gh)]}).drained n.par,0,o.id)
def TreeV.remove (t:TreeV) (o:OrdV):TreeV × Int × Int :=
 if t.loose o.id ≠ 0 then (t,t.loose o.id,0) else match t.find o.id with
 | none => (t,1,0)
 | some n =>
  let t1:TreeV:={t with nodes:=t.nodes.filter fun x => decide (x.id ≠ o.id),ghosts:=t.ghosts ++ [(⟨n.par,n.srv,0⟩:Gh)]}
  let s:=(t1.server n.par).getD rootS
  let till:=if kidsErr s (t1.counted n.par) = none then t.now + drainI s (t1.counted n.par) else 0
  ({t1 with ghosts:=t.ghosts ++ [(⟨n.par,n.srv,till⟩:Gh)]},0,o.id)
def TreeV.bind (t:TreeV) (o:OrdV):TreeV × Int × Int :=
 if guestOk o.pol o.tasks = false then (t,8,0) else if t.loose o.id ≠ 0 then (t,t.loose o.id,0) else match t.find o.id with
 | none => (t,1,0)
 | some n => if n.pol ≠ 0 then (t,3,0) else if guestErr n.srv o.pol o.tasks ≠ none then (t,4,0) else
  ({t with nodes:=setNd t.nodes o.id fun n => {n with pol:=o.pol,tasks:=o.tasks}},0,o.id)
def TreeV.tick (t:TreeV) (n:Int):TreeV:={t with now:=max t.now n,ghosts:=t.ghosts.filter fun g => decide (max t.now n < g.till)}
def TreeV.apply (t:TreeV) (o:OrdV):TreeV × Int × Int :=
 if o.kd < 1 ∨ 4 < o.kd ∨ o.at_ < 0 ∨ 1099511627776 < o.at_ then (t,7,0) else
 let u:=t.tick o.at_
 if o.kd = 1 then u.create o else if o.kd = 2 then u.resize o else if o.kd = 3 then u.remove o else u.bind o
end Go.Proofs.YtdfelohjdkcpkaaGreatDoor
namespace Go.Proofs.YtdfelohjdkcpkaaGreatDoor
open Go.RowKit
theorem guest_all {G:List Nat} {E:Nat→Addr} (s:Srv) (p:Int) (a:Option Addr) (l:List Tsk) (c:Nat) (w:World) (hE:EAt G E w) (i0:9 ∈ G) (i1:11 ∈ G) (i4:10 ∈ G) (hl:TsksAt w a l) (hm:l.length≤maxLen) :
 Calls Tryz.prog 170 #[.agg #[.int .i64 s.k,.int .i64 s.q,.int .i64 s.t],.int .i64 p,.slice a l.length c] w fun e w' => e = .returned (errV E (guestErr s p l))∧Gr w w':=by
 unfold guestErr;cases hp:parOk s with
 | false => rw [if_pos rfl];exact guest_par s p a l c w hE i0 hp
 | true =>
  rw [if_neg (by decide)];cases hg:guestOk p l with
  | false => rw [if_pos rfl];exact guest_bad s p a l c w hE i4 hp hl hm hg
  | true =>
   rw [if_neg (by decide)];by_cases h2:p = 2
   ·subst h2;rw [if_pos rfl];have h1:=guestO_any s a l c w hE i1 hp hl hg;cases hf:fitsO s l with
    | false => rw [hf] at h1;rw [if_pos rfl];exact h1
    | true => rw [hf] at h1;rw [if_neg (by decide)];exact h1
   ·rw [if_neg h2];obtain rfl:p = 1:=by
     obtain ⟨h3,h4,_⟩:=(guestOk_iff p l).1 hg;omega
    cases hb1:lineB s (shareT l) (sumC l + maxS l) with
    | false => rw [if_pos rfl];exact guestD_line s a l c w hE i0 i1 hp hl hg hb1
    | true =>
     rw [if_neg (by decide)];cases hb2:fitsD s l with
     | false => rw [if_pos rfl];exact guestD_over s a l c w hE i0 i1 hp hl hg hb1 hb2
     | true => rw [if_neg (by decide)];exact guestD_yes s a l c w hE i0 hp hl hg hb1 hb2
end Go.Proofs.YtdfelohjdkcpkaaGreatDoor
namespace Go.Proofs.YtdfelohjdkcpkaaGreatDoor
open Go.ChangeShapes Go.WideShapes Go.ChangeAt Go.RowKit Go.Deep Go.Joins
def I64 (x:Int):Prop:=-9223372036854775808≤x∧x≤9223372036854775807
theorem i64_of_wf {x:Int} (h:(Lit.int .i64 x).wf = true):I64 x:=by
 simp [Lit.wf,IntKind.min,IntKind.max,IntKind.signed,IntKind.bits] at h;exact ⟨by omega,by omega⟩
theorem cell_lt {W:World} {a:Addr} {v:Value} (h:W.cell? a = some v):a.block < W.heap.size∧a = ⟨a.block,a.off,none⟩:=by
 unfold World.cell? at h;split at h
 ·rename_i c t f hb;refine ⟨(Array.getElem?_eq_some_iff.1 hb).1,?_⟩;split at h
  ·cases h
  ·rename_i hs;obtain ⟨b,o,s⟩:=a;simp at hs;simp [hs]
 ·cases h
theorem add_plain {W:World} {a:Addr} {n:Nat} {v:Value} (h:W.cell? (a.add (0 * n)) = some v):∃ b o,a = ⟨b,o,none⟩:=by
 rw [Nat.zero_mul] at h;have:a.add 0 = a:=by simp [Addr.add]
 rw [this] at h;exact ⟨_,_,(cell_lt h).2⟩
theorem add_mk (b o n:Nat):(⟨b,o,none⟩:Addr).add n = ⟨b,o + n,none⟩:=by
 unfold Addr.add;by_cases h:n = 0 <;> simp [h]
section
variable {H:Type} {enc:TypeId × Value→H} {W:World}
theorem all_again {W':World} (hb:Gr W W'):∀ (ts:List TypeId) (vs:List Value) (ds:List (DataW H)) (p:List MemPlace),
 (ts.all fun t => Tryz.prog.readableRec t && decide (t < Tryz.prog.types.size)) = true→(∀ x ∈ p,x.block < W.heap.size) →
 DataW.TrodAll enc Tryz.prog W 0 (fun _ => true) true ts vs ds p→DataW.TrodAll enc Tryz.prog W' 0 (fun b => decide (b < W.heap.size)) true ts vs ds p:=by
 intro ts;induction ts with
 | nil =>
  intro vs ds p _ _ h;obtain ⟨rfl,rfl,rfl⟩:=trodAll_nil h;exact rfl
 | cons t ts ih =>
  intro vs ds p hts hp h;simp only [List.all_cons,Bool.and_eq_true,decide_eq_true_eq] at hts;obtain ⟨v,vs',d,ds',p1,q,rfl,rfl,rfl,h1,h2⟩:=trodAll_cons h;exact trodAll_cons_mk (Below.trod laidOut hts.1.1 hts.1.2 h1 hb (fun x hx => hp x (List.mem_append_left _ hx))) (ih vs' ds' q (by simpa using hts.2) (fun x hx => hp x (List.mem_append_right _ hx)) h2)
theorem post_law {f:Func} {s:ChangeSpec} {W':World} {args:Array Value} {ds gs:List (DataW H)} {before:List MemPlace}
 (hps:(f.params.toList.all fun t => Tryz.prog.readableRec t && decide (t < Tryz.prog.types.size)) = true) (hrt:f.resultTypes = #[4]) (hvs:s.vars = [])
 (hfn:(s.fn H ds).results = [.lit (.bool true)]∧(s.fn H ds).args = ds∧(s.fn H ds).vars = [])
 (hW:DataW.Whole enc Tryz.prog f.params.toList s.vars false W args.toList ds gs before) (hb:Gr W W') :
 s.post enc Tryz.prog f false true false false W args (.bool true) W':=by
 have hlt:=hW.lt;have hW':=hW;obtain ⟨p,q,hA,hV,rfl,hfz,hnd⟩:=hW;rw [hvs] at hV;obtain ⟨rfl,rfl⟩:=trodVars_none hV;refine ⟨ds,[],p ++ [],[],p,[],hW',?_,?_,?_,hb.frame _,fun h => by cases h⟩
 ·rw [List.append_nil,hfn.1,hrt];exact trodAll_mk1 (shut_bool Tryz.underlying4 _)
 ·rw [List.append_nil,hfn.2.1];exact all_again hb _ _ _ _ hps (fun x hx => hlt x (by simpa using hx)) hA
 ·rw [List.append_nil,hfn.2.2,hvs];rfl
end
end Go.Proofs.YtdfelohjdkcpkaaGreatDoor
namespace Go.Proofs.YtdfelohjdkcpkaaGreatDoor
open Go.ChangeShapes Go.WideShapes Go.ChangeAt Go.RowKit Go.Deep Go.Joins
theorem chosen {α:Type} {n:Nat} {p:Nat→α→Prop} (h:∀ i,i < n→∃ s,p i s):∃ l:List α,l.length = n∧∀ i s,l[i]? = some s→p i s:=by
 induction n with
 | zero => exact ⟨[],rfl,fun i s h => by simp at h⟩
 | succ n ih =>
  obtain ⟨l,hl,hp⟩:=ih (fun i hi => h i (by omega));obtain ⟨s,hs⟩:=h n (by omega);refine ⟨l ++ [s],by simp [hl],fun i x hx => ?_⟩;by_cases hi:i < n
  ·rw [List.getElem?_append_left (by omega)] at hx;exact hp i x hx
  ·rw [List.getElem?_append_right (by omega)] at hx;have h0:i - l.length = 0:=by
    have:=get_lt hx;simpa using this
   rw [h0] at hx;obtain rfl:s = x:=by simpa using hx
   obtain rfl:i = n:=by omega
   exact hs
section
variable {H:Type} {enc:TypeId × Value→H} {W:World}
theorem weightsAll_mem {e:TypeId}:∀ (l:List (DataW H)) (d:DataW H),d ∈ l→(DataW.weightsAll Tryz.prog e l).all (·≤reachBytes) = true→(d.weights Tryz.prog e).all (·≤reachBytes) = true
 | x :: r,d,hd,h => by
  simp only [DataW.weightsAll,List.all_append,Bool.and_eq_true] at h;rcases List.mem_cons.1 hd with rfl | hd
  ·exact h.1
  ·exact weightsAll_mem r d hd h.2
set_option maxRecDepth 100000 in
theorem recs_of_trod {α:Type} {k bytes:Nat} {code:α→List Value} {Good Size:α→Prop} {t e:TypeId} (ht:Tryz.prog.underlying t = some (.slice e)) (hk:Tryz.prog.cellsOf e = k) (hb:Tryz.prog.bytesOf e = bytes) (hk0:0 < k) (hlen:∀ s,(code s).length = k)
 (hdec:∀ n cs y,DataW.trod enc Tryz.prog W 0 (fun _ => true) true n e cs = some y→∃ s,cs = code s∧Good s∧((y.1.weights Tryz.prog e).all (·≤reachBytes) = true→Size s))
 {fuel:Nat} {cs:List Value} {x:DataW H × List MemPlace} (h:DataW.trod enc Tryz.prog W 0 (fun _ => true) true fuel t cs = some x) :
 ∃ (a:Option Addr) (c:Nat) (l:List α),cs = [.slice a l.length c]∧RecsAt k code W a l∧(a = none→c = 0)∧l.length≤c∧c≤maxLen∧(∀ s ∈ l,Good s)∧((x.1.weights Tryz.prog t).all (·≤reachBytes) = true→l.length * bytes≤reachBytes∧∀ s ∈ l,Size s):=by
 rcases open_slice ht h with ⟨rfl,_⟩ | ⟨a,len,cap,m,n,D,Pl,rfl,_,hl,hm,hmm,hx,hi⟩
 ·exact ⟨none,0,[],rfl,(fun i s hs => by simp at hs),(fun _ => rfl),Nat.le_refl _,Nat.zero_le _,(fun _ h => by cases h),fun _ => ⟨by simp,fun _ h => by cases h⟩⟩
 ·simp only [if_true] at hmm;subst hmm;rw [hk] at hi;have each:∀ i,i < len→∃ s:α,(∀ j u,(code s)[j]? = some u→W.cell? (a.add (i * k + j)) = some u)∧Good s∧(((D i).weights Tryz.prog e).all (·≤reachBytes) = true→Size s):=fun i h => by
   obtain ⟨cs',hc,htr⟩:=hi i (by omega);obtain ⟨s,rfl,hg,hz⟩:=hdec _ _ _ htr;obtain ⟨_,_,hat⟩:=World.cells?_some hc;refine ⟨s,fun j u hu => ?_,hg,hz⟩;have hj:j < k:=by rw [← hlen s];exact (List.getElem?_eq_some_iff.1 hu).1
   rw [← hu,← hat j hj];congr 1;unfold Addr.add;by_cases h1:i * k = 0
   ·by_cases h2:j = 0 <;> simp [h1,h2]
   ·by_cases h2:j = 0
    ·simp [h1,h2]
    ·have h3:¬ (i * k + j = 0):=by omega
     simp [h1,h2,Nat.add_assoc]
  obtain ⟨l,hll,hp⟩:=chosen each;refine ⟨some a,_,l,by rw [hll],fun i s hs => ?_,(fun h => by cases h),by omega,hm,fun s hs => ?_,fun hw => ?_⟩
  ·have hi0:i < len:=by have:=get_lt hs;omega
   obtain ⟨hc,_⟩:=hp i s hs;have hne:code s ≠ []:=fun e => by have:=hlen s;rw [e] at this;simp at this;omega
   -- the place is plain
   obtain ⟨s0,hs0⟩:=get_some l 0 (by omega);obtain ⟨hc0,_⟩:=hp 0 s0 hs0;have hlen0:=hlen s0;obtain ⟨u0,hu0⟩:∃ u,(code s0)[0]? = some u:=⟨(code s0)[0]'(by omega),List.getElem?_eq_getElem _⟩
   obtain ⟨b,o,rfl⟩:=add_plain (n:=0) (by simpa using hc0 0 u0 hu0);have hbl:b < W.heap.size:=by have:=(cell_lt (hc0 0 u0 hu0)).1;simpa [add_mk] using this
   refine ⟨b,o,rfl,hbl,fun j u hu => ?_⟩;have:=hc j u hu;rw [add_mk] at this;rw [Nat.add_assoc];exact this
  ·obtain ⟨i,hi'⟩:=List.mem_iff_getElem?.1 hs;exact (hp i s hi').2.1
  ·subst hx;simp only [DataW.weights,ht,List.all_cons,List.all_append,Bool.and_eq_true,List.length_map,List.length_range,hb] at hw;refine ⟨Nat.le_trans (Nat.mul_le_mul_right _ (by omega)) (of_decide_eq_true hw.1),fun s hs => ?_⟩;obtain ⟨i,hi'⟩:=List.mem_iff_getElem?.1 hs;have hi0:i < len:=by have:=get_lt hi';omega
   refine (hp i s hi').2.2 (weightsAll_mem _ _ ?_ hw.2.1);exact List.mem_map.2 ⟨i,List.mem_range.2 hi0,rfl⟩
end
end Go.Proofs.YtdfelohjdkcpkaaGreatDoor
namespace Go.Proofs.YtdfelohjdkcpkaaGreatDoor
open Go.ChangeShapes Go.WideShapes Go.ChangeAt Go.RowKit Go.Deep Go.Joins
def TskI (s:Tsk):Prop:=I64 s.c∧I64 s.p∧I64 s.d∧I64 s.s
structure OrM where
 e:OrdV
 a:Option Addr
 c:Nat
abbrev OrM.cells (x:OrM):List Value:=[.int .i64 x.e.kd,.int .i64 x.e.id,.int .i64 x.e.srv.k,.int .i64 x.e.srv.q,.int .i64 x.e.srv.t,.int .i64 x.e.pol,.slice x.a x.e.tasks.length x.c,.int .i64 x.e.at_]
theorem OrM.cells_len (x:OrM):x.cells.length = 8:=rfl
def OrM.ok (W:World) (x:OrM):Prop:=RecsIn Any 4 Tsk.cells W x.a x.e.tasks∧(x.a = none→x.c = 0)∧x.e.tasks.length≤x.c∧x.c≤maxLen∧x.e.tasks.length * 32≤140737488351232
def OrI (e:OrdV):Prop:=I64 e.kd∧I64 e.id∧I64 e.srv.k∧I64 e.srv.q∧I64 e.srv.t∧I64 e.pol∧I64 e.at_∧∀ s ∈ e.tasks,TskI s
section
variable {H:Type} {enc:TypeId × Value→H} {W:World}
set_option maxRecDepth 100000 in
theorem tsk_of_trod (n:Nat) (cs:List Value) (y:DataW H × List MemPlace) (h:DataW.trod enc Tryz.prog W 0 (fun _ => true) true n 41 cs = some y):∃ s:Tsk,cs = s.cells∧TskI s∧((y.1.weights Tryz.prog 41).all (·≤reachBytes) = true→True):=by
 obtain ⟨y0,y1,y2,y3,m,_,hlen,t0,t1,t2,t3⟩:=trod_struct4 Tryz.underlying41 h;have hc:Tryz.prog.cellsOf 41 = 4:=by kernel_rfl
 have hci:Tryz.prog.cellsOf 3 = 1:=by kernel_rfl
 rw [hc] at hlen
 match cs,hlen with
 | [c0,c1,c2,c3],_ =>
  simp only [hci] at t0 t1 t2 t3;obtain ⟨k,e0,_,w0⟩:=DataW.trod_int Tryz.underlying3 t0;obtain ⟨q,e1,_,w1⟩:=DataW.trod_int Tryz.underlying3 t1;obtain ⟨t,e2,_,w2⟩:=DataW.trod_int Tryz.underlying3 t2;obtain ⟨u,e3,_,w3⟩:=DataW.trod_int Tryz.underlying3 t3;simp at e0 e1 e2 e3;subst e0 e1 e2 e3;exact ⟨⟨k,q,t,u⟩,rfl,⟨i64_of_wf w0,i64_of_wf w1,i64_of_wf w2,i64_of_wf w3⟩,fun _ => trivial⟩
set_option maxRecDepth 100000 in
theorem ord_of_trod (n:Nat) (cs:List Value) (y:DataW H × List MemPlace) (h:DataW.trod enc Tryz.prog W 0 (fun _ => true) true n 32 cs = some y):∃ s:OrM,cs = s.cells∧OrI s.e∧((y.1.weights Tryz.prog 32).all (·≤reachBytes) = true→s.ok W):=by
 have hc:Tryz.prog.cellsOf 32 = 8:=by kernel_rfl
 have hci:Tryz.prog.cellsOf 3 = 1:=by kernel_rfl
 have hcs:Tryz.prog.cellsOf 29 = 3:=by kernel_rfl
 have hct:Tryz.prog.cellsOf 30 = 1:=by kernel_rfl
 obtain ⟨xs,m2,_,hy2,hlen,hxl,hf⟩:=DataW.trod_struct Tryz.underlying32 h;rw [hc] at hlen
 match cs,hlen with
 | [c2,c3,c4,c5,c6,c7,c8,c9],_ =>
  match xs,hxl with
  | [z0,z1,z2,z3,z4,z5],_ =>
   have u0:DataW.trod enc Tryz.prog W 0 (fun _ => true) true m2 3 (List.take (Tryz.prog.cellsOf 3) (List.drop 0 [c2,c3,c4,c5,c6,c7,c8,c9])) = some z0:=hf 0 _ rfl;rw [hci] at u0;have u1:DataW.trod enc Tryz.prog W 0 (fun _ => true) true m2 3 (List.take (Tryz.prog.cellsOf 3) (List.drop 1 [c2,c3,c4,c5,c6,c7,c8,c9])) = some z1:=hf 1 _ rfl;rw [hci] at u1;have u2:DataW.trod enc Tryz.prog W 0 (fun _ => true) true m2 29 (List.take (Tryz.prog.cellsOf 29) (List.drop 2 [c2,c3,c4,c5,c6,c7,c8,c9])) = some z2:=hf 2 _ rfl;rw [hcs] at u2;have u3:DataW.trod enc Tryz.prog W 0 (fun _ => true) true m2 3 (List.take (Tryz.prog.cellsOf 3) (List.drop 5 [c2,c3,c4,c5,c6,c7,c8,c9])) = some z3:=hf 3 _ rfl;rw [hci] at u3;have u4:DataW.trod enc Tryz.prog W 0 (fun _ => true) true m2 30 (List.take (Tryz.prog.cellsOf 30) (List.drop 6 [c2,c3,c4,c5,c6,c7,c8,c9])) = some z4:=hf 4 _ rfl;rw [hct] at u4;have u5:DataW.trod enc Tryz.prog W 0 (fun _ => true) true m2 3 (List.take (Tryz.prog.cellsOf 3) (List.drop 7 [c2,c3,c4,c5,c6,c7,c8,c9])) = some z5:=hf 5 _ rfl;rw [hci] at u5;obtain ⟨kd,e2,_,w2⟩:=DataW.trod_int Tryz.underlying3 u0;obtain ⟨id,e3,_,w3⟩:=DataW.trod_int Tryz.underlying3 u1;obtain ⟨v0,v1,v2,m3,_,_,k0,k1,k2⟩:=trod_struct3 Tryz.underlying29 u2;simp only [hci] at k0 k1 k2;obtain ⟨s1,e4,_,w4⟩:=DataW.trod_int Tryz.underlying3 k0;obtain ⟨s2,e5,_,w5⟩:=DataW.trod_int Tryz.underlying3 k1;obtain ⟨s3,e6,_,w6⟩:=DataW.trod_int Tryz.underlying3 k2;obtain ⟨po,e7,_,w7⟩:=DataW.trod_int Tryz.underlying3 u3;obtain ⟨ta,tc,tl,e8,r1,r2,r3,r4,r5,r6⟩:=recs_of_trod (k:=4) (bytes:=32) (code:=Tsk.cells) Tryz.underlying30 (by kernel_rfl) (by kernel_rfl) (by omega) Tsk.cells_len (tsk_of_trod (enc:=enc) (W:=W)) u4;obtain ⟨at_,e9,_,w9⟩:=DataW.trod_int Tryz.underlying3 u5;simp at e2 e3 e4 e5 e6 e7 e8 e9;subst e2 e3 e4 e5 e6 e7 e8 e9;refine ⟨⟨⟨kd,id,⟨s1,s2,s3⟩,po,tl,at_⟩,ta,tc⟩,rfl,⟨i64_of_wf w2,i64_of_wf w3,i64_of_wf w4,i64_of_wf w5,i64_of_wf w6,i64_of_wf w7,i64_of_wf w9,r5⟩,fun hw => ?_⟩;rw [hy2] at hw;simp only [DataW.weights,Tryz.underlying32,List.map_cons,List.map_nil,DataW.weightsEach,List.all_append,Bool.and_eq_true] at hw;have h6:=(r6 hw.2.2.2.2.1).1;unfold reachBytes at h6;exact ⟨⟨r1,fun _ _ _ => trivial⟩,r2,r3,r4,h6⟩
set_option maxRecDepth 100000 in
theorem open_ords {base:Nat} {v:Value} {d:DataW H} {p:List MemPlace} (hval:Value.okWide Tryz.prog W .any base 22 v) (h:DataW.Trod enc Tryz.prog W 0 (fun _ => true) true 22 v d p) :
 ∃ (a:Option Addr) (c:Nat) (L:List OrM),v = .slice a L.length c∧RecsIn Any 8 OrM.cells W a L∧(∀ x ∈ L,OrI x.e)∧L.length≤maxLen∧((d.weights Tryz.prog 22).all (·≤reachBytes) = true→∀ x ∈ L,x.ok W):=by
 obtain ⟨a0,len,cap,rfl⟩:=okWide_slice Tryz.underlying22 hval;obtain ⟨fuel,hf⟩:=h;obtain ⟨a,c,L,hcs,r1,r2,r3,r4,r5,r6⟩:=recs_of_trod (k:=8) (bytes:=80) (code:=OrM.cells) Tryz.underlying22 (by kernel_rfl) (by kernel_rfl) (by omega) OrM.cells_len (ord_of_trod (enc:=enc) (W:=W)) hf;simp [Value.cells] at hcs;obtain ⟨rfl,rfl,rfl⟩:=hcs;exact ⟨_,_,L,rfl,⟨r1,fun _ _ _ => trivial⟩,r5,by omega,fun hw => (r6 hw).2⟩
end
end Go.Proofs.YtdfelohjdkcpkaaGreatDoor
