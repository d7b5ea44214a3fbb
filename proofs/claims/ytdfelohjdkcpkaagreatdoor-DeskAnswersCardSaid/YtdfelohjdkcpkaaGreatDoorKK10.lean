/- admit.Guest under PolicyDeadline: the contract. -/
import Derived.Test.YtdfelohjdkcpkaaGreatDoorKK9
import Derived.Deep.RegionLaw
set_option maxRecDepth 100000
set_option maxHeartbeats 6400000
namespace Go.Proofs.YtdfelohjdkcpkaaGreatDoor
open Go.RowKit
theorem Kn {G:List Nat} {E:Nat→Addr} (s:Ao) (a:Option Addr) (l:List AA) (c:Nat) (w:World) (hE:CK G E w) (i0:9 ∈ G) (i1:11 ∈ G) (h:AE s = true) (hl:A1 w a l) (hg:AW 1 l = true) (hb1:BU s (Aq l) (BL l + Bg l) = false) :
 Calls Tryz.prog 170 #[.agg #[.int .i64 s.k,.int .i64 s.q,.int .i64 s.t],.int .i64 1,.slice a l.length c] w fun e w' => e = .returned (Value.iface 384 (.pointer (some (E 11))))∧Gr w w':=by
 have hsi:=fun w => BM s w h
 have hcg:=fun w' (g:Gr w w') => Ck 1 a l c w' (hl.gr g) hg
 obtain ⟨_,_,hok⟩:=(Bj 1 l).1 hg;have h8:=(Ay hok).2;have htk:=fun w' (g:Gr w w') => DE a l c w' (hl.gr g) hok
 have hsh:=D0 hok;have hq:=DY hok l.length;have hs:=D8 hok l.length;rw [List.take_length] at hq hs;obtain ⟨hq1,hq2⟩:=hq;obtain ⟨hs1,hs2⟩:=hs;have hln:=fun w' (g:Gr w w') => DL s (Aq l) (BL l + Bg l) w' (hE.gr g) i0 h hsh (by omega) (by omega)
 rw [hb1] at hln;have hQ:=DY hok;have hM:=D8 hok;refine Br ?_ hsi hcg htk hln hQ hM hok hsh;clear hsi hcg htk hln hQ hM hok hsh;intro hsi hcg htk hln hQ hM hok hsh;refine AZ ?_ hb1 h hg;clear hb1 h hg;intro hb1 h hg;go_enter Tryz.func170,Tryz.ntmps170;go_wp2_with fail;refine (hsi.out _).mono ?_;rintro e w0 ⟨rfl,g0⟩;obtain ⟨c0,f0,s0⟩:=g0.cells;try simp only [Aa] at c0 f0 s0
 try simp only [zL] at c0 f0 s0
 try simp only [zD] at c0 f0 s0
 try simp only [zS] at c0 f0 s0
 have z00:w.heap.size < w0.heap.size:=by omega
 have y00:w.heap.size≤w0.heap.size:=by omega
 have k00:=fun o => c0 (w.heap.size) o (by omega)
 have j00:=fun o => f0 (w.heap.size) o (by omega)
 have z01:w.heap.size + 1 < w0.heap.size:=by omega
 have k01:=fun o => c0 (w.heap.size + 1) o (by omega)
 have j01:=fun o => f0 (w.heap.size + 1) o (by omega)
 have gZ:Gr w w0:=(((Gr.refl w).alloc _).alloc _).trans g0;go_wp2_with fail;go_wp2_with fail;refine (hcg.out _ gZ).mono ?_;rintro e w1 ⟨rfl,g1⟩;obtain ⟨c1,f1,s1⟩:=g1.cells;try simp only [Aa] at c1 f1 s1
 try simp only [zL] at c1 f1 s1
 try simp only [zD] at c1 f1 s1
 try simp only [zS] at c1 f1 s1
 have z10:w.heap.size < w1.heap.size:=by omega
 have y10:w.heap.size≤w1.heap.size:=by omega
 have k10:=fun o => c1 (w.heap.size) o (by omega)
 have j10:=fun o => f1 (w.heap.size) o (by omega)
 have z11:w.heap.size + 1 < w1.heap.size:=by omega
 have k11:=fun o => c1 (w.heap.size + 1) o (by omega)
 have j11:=fun o => f1 (w.heap.size + 1) o (by omega)
 have gA:=gZ.trans g1;go_wp2_with fail;go_wp2_with fail;refine (htk.out _ gA).mono ?_;rintro e w2 ⟨rfl,g2⟩;obtain ⟨c2,f2,s2⟩:=g2.cells;try simp only [Aa] at c2 f2 s2
 try simp only [zL] at c2 f2 s2
 try simp only [zD] at c2 f2 s2
 try simp only [zS] at c2 f2 s2
 have z20:w.heap.size < w2.heap.size:=by omega
 have y20:w.heap.size≤w2.heap.size:=by omega
 have k20:=fun o => c2 (w.heap.size) o (by omega)
 have j20:=fun o => f2 (w.heap.size) o (by omega)
 have z21:w.heap.size + 1 < w2.heap.size:=by omega
 have k21:=fun o => c2 (w.heap.size + 1) o (by omega)
 have j21:=fun o => f2 (w.heap.size + 1) o (by omega)
 have gB:=gA.trans g2;go_wp2_with fail;go_loopw [62,15,16] (fun iv nv mv wr => ∃ k:Nat,k≤l.length∧iv = .int .i64 k∧nv = .int .i64 (BL (l.take k))∧mv = .int .i64 (Bg (l.take k))∧Gr (w2.alloc (.cells #[.int .u64 (AV (Aq l).1),.int .u64 (AR (Aq l).1),.int .u64 (AV (Aq l).2),.int .u64 (AR (Aq l).2)] 195)) wr) (fun iv _ _ _ => l.length - (intOf iv).toNat);case atStart => exact ⟨0,Nat.zero_le _,rfl,rfl,rfl,Gr.refl _⟩
 case round =>
  obtain ⟨k,hk,rfl,rfl,rfl,hg⟩:=hrel;obtain ⟨cg,fg,sg⟩:=hg.cells;simp only [zL] at cg fg sg;have k1:=fun o => cg w.heap.size o (by omega)
  have k2:=fun o => cg (w.heap.size + 1) o (by omega)
  have k3:=fun o => cg w2.heap.size o (by omega)
  clear cg fg;have gall:Gr w wr:=(gB.alloc _).trans hg;by_cases hlt:k < l.length
  ·obtain ⟨x,hx⟩:=Ac l k hlt;obtain ⟨b,off,rfl,hb,d0,d1,d2,d3⟩:=(hl.gr gall) k x hx;have hq1:=hQ.out k;have hq2:=hQ.out (k + 1);have hm1:=hM.out k;have hleg:=BQ hok.out hx;have hnext:BL (l.take (k + 1)) = BL (l.take k) + x.c:=by unfold BL;rw [Ae hx,A6]
   have hnext2:Bg (l.take (k + 1)) = max (Bg (l.take k)) x.s:=by rw [Ae hx,DK]
   rw [hnext] at hq2;obtain ⟨q1,q2⟩:=hq1;obtain ⟨q3,q4⟩:=hq2;obtain ⟨m1,m2⟩:=hm1;obtain ⟨x1,x2,x3,x4,x5,x6⟩:=hleg;replace hnext:=zH hnext;replace hx:=zH hx;by_cases hmx:Bg (l.take k) < x.s
   ·have hn3:Bg (l.take (k + 1)) = x.s:=by omega
    clear hnext2;replace hn3:=zH hn3;go_wp2_with fail;go_roundw;case rel => exact ⟨k + 1,by omega,by go_num,by rw [hnext.out],by rw [hn3.out];first | rfl | go_num | (congr 1;omega),hg.trans ((Gr.refl _).alloc _)⟩
    case measure => simp [intOf];omega
   ·have hn3:Bg (l.take (k + 1)) = Bg (l.take k):=by omega
    clear hnext2;replace hn3:=zH hn3;go_wp2_with fail;go_roundw;case rel => exact ⟨k + 1,by omega,by go_num,by rw [hnext.out],by rw [hn3.out];first | rfl | go_num | (congr 1;omega),hg.trans ((Gr.refl _).alloc _)⟩
    case measure => simp [intOf];omega
  ·have hall:l.take k = l:=List.take_of_length_le (by omega);rw [hall];have hs1:IntKind.i64.wrap (BL l + Bg l) = BL l + Bg l:=by rw [IntKind.wrap_i64];omega
   go_wp2_with fail;have c0:wr.cell? ⟨w.heap.size,0,none⟩ = some (.int .i64 s.k):=by simp (maxDischargeDepth:=8) [go_sem, *]
   have c1:wr.cell? ⟨w.heap.size,1,none⟩ = some (.int .i64 s.q):=by simp (maxDischargeDepth:=8) [go_sem, *]
   have c2:wr.cell? ⟨w.heap.size,2,none⟩ = some (.int .i64 s.t):=by simp (maxDischargeDepth:=8) [go_sem, *]
   have c3:wr.cell? ⟨w.heap.size + 1,0,none⟩ = some (.slice a l.length c):=by simp (maxDischargeDepth:=8) [go_sem, *]
   have z1:w.heap.size < wr.heap.size:=by omega
   have z2:w.heap.size + 1 < wr.heap.size:=by omega
   have z3:w2.heap.size < wr.heap.size:=by omega
   have c4:wr.cell? ⟨w2.heap.size,0,none⟩ = some (.int .u64 (AV (Aq l).1)):=by simp (maxDischargeDepth:=8) [go_sem, *]
   have c5:wr.cell? ⟨w2.heap.size,1,none⟩ = some (.int .u64 (AR (Aq l).1)):=by simp (maxDischargeDepth:=8) [go_sem, *]
   have c6:wr.cell? ⟨w2.heap.size,2,none⟩ = some (.int .u64 (AV (Aq l).2)):=by simp (maxDischargeDepth:=8) [go_sem, *]
   have c7:wr.cell? ⟨w2.heap.size,3,none⟩ = some (.int .u64 (AR (Aq l).2)):=by simp (maxDischargeDepth:=8) [go_sem, *]
   have q0:=AB.cell c0;have q1:=AB.cell c1;have q2:=AB.cell c2;have q4:=AB.cell c4;have q5:=AB.cell c5;have q6:=AB.cell c6;have q7:=AB.cell c7;refine Ap (by kernel_rfl) (by kernel_rfl) ?_;repeat (any_goals (first | go_big_quiet_step (first | (exact Calls.grows (hln.out _ (gall.trans (by exact AB.gr _))))) | quiet_step (first | (exact Calls.grows (hln.out _ (gall.trans (by exact AB.gr _)))))))
   refine wpQuiet_nil ?_;intro wp hwq;have gp:=AB.of hwq;clear hwq;obtain ⟨cp,fp,sp⟩:=gp.cells;try simp only [Aa] at cp fp sp
   try simp only [zL] at cp fp sp
   try simp only [zD] at cp fp sp
   try simp only [zS] at cp fp sp
   have he:=(hE.gr (gall.trans gp)).c0 i1;go_wp2_with fail;go_ret;exact ⟨rfl,gall.trans gp⟩
theorem Ln {G:List Nat} {E:Nat→Addr} (s:Ao) (a:Option Addr) (l:List AA) (c:Nat) (w:World) (hE:CK G E w) (i0:9 ∈ G) (h:AE s = true) (hl:A1 w a l) (hg:AW 1 l = true) (hb1:BU s (Aq l) (BL l + Bg l) = true) (hb2:Hv s l = true) :
 Calls Tryz.prog 170 #[.agg #[.int .i64 s.k,.int .i64 s.q,.int .i64 s.t],.int .i64 1,.slice a l.length c] w fun e w' => e = .returned .nilIface∧Gr w w':=by
 have hsi:=fun w => BM s w h
 have hcg:=fun w' (g:Gr w w') => Ck 1 a l c w' (hl.gr g) hg
 obtain ⟨_,_,hok⟩:=(Bj 1 l).1 hg;have h8:=(Ay hok).2;have htk:=fun w' (g:Gr w w') => DE a l c w' (hl.gr g) hok
 have hsh:=D0 hok;have hq:=DY hok l.length;have hs:=D8 hok l.length;rw [List.take_length] at hq hs;obtain ⟨hq1,hq2⟩:=hq;obtain ⟨hs1,hs2⟩:=hs;have hln:=fun w' (g:Gr w w') => DL s (Aq l) (BL l + Bg l) w' (hE.gr g) i0 h hsh (by omega) (by omega)
 rw [hb1] at hln;have hst:=fun w' (g:Gr w w') => E1 a l c w' (hl.gr g) hok
 have hbl:=fun aL ls cL w' lb (g:Gr w w') h40 (hde:Dv l ls) hL hc => Gs s aL ls cL lb a l c w' h hL h40 (fun x hx => ⟨by have:=FD hok ((hde x).1 hx).2;omega,by have:=((hde x).1 hx).1;omega⟩) (hl.gr g) (fun x hx => L6 hok hx) hok hc
 have hbd:=fun ls (hde:Dv l ls) => Gt (s:=s) hok hde
 rw [hb2] at hbd;have hbl2:∀ aL ls cL w' lb,Gr w w'→ls.length≤40000→Dv l ls→Dl w' aL ls→w'.cell? ⟨lb,0,none⟩ = some (.slice a l.length c)→Calls Tryz.prog 202 #[.agg #[.int .i64 s.k,.int .i64 s.q,.int .i64 s.t],.slice aL ls.length cL,.func (.func 213) #[] #[.pointer (some ⟨lb,0,none⟩)]] w' fun e w'' => e = .returned (.bool true)∧Gr w' w'':=fun aL ls cL w' lb g h40 hde hL hc => by
  have:=hbl aL ls cL w' lb g h40 hde hL hc;rw [hbd ls hde] at this;exact this
 clear hbl hbd;refine AZ ?_ hst hbl2 hb2;clear hst hbl2 hb2;intro hst hbl2 hb2;have hQ:=DY hok;have hM:=D8 hok;refine Br ?_ hsi hcg htk hln hQ hM hok hsh;clear hsi hcg htk hln hQ hM hok hsh;intro hsi hcg htk hln hQ hM hok hsh;refine AZ ?_ hb1 h hg;clear hb1 h hg;intro hb1 h hg;go_enter Tryz.func170,Tryz.ntmps170;go_wp2_with fail;refine (hsi.out _).mono ?_;rintro e w0 ⟨rfl,g0⟩;obtain ⟨c0,f0,s0⟩:=g0.cells;try simp only [Aa] at c0 f0 s0
 try simp only [zL] at c0 f0 s0
 try simp only [zD] at c0 f0 s0
 try simp only [zS] at c0 f0 s0
 have z00:w.heap.size < w0.heap.size:=by omega
 have y00:w.heap.size≤w0.heap.size:=by omega
 have k00:=fun o => c0 (w.heap.size) o (by omega)
 have j00:=fun o => f0 (w.heap.size) o (by omega)
 have z01:w.heap.size + 1 < w0.heap.size:=by omega
 have k01:=fun o => c0 (w.heap.size + 1) o (by omega)
 have j01:=fun o => f0 (w.heap.size + 1) o (by omega)
 have gZ:Gr w w0:=(((Gr.refl w).alloc _).alloc _).trans g0;go_wp2_with fail;go_wp2_with fail;refine (hcg.out _ gZ).mono ?_;rintro e w1 ⟨rfl,g1⟩;obtain ⟨c1,f1,s1⟩:=g1.cells;try simp only [Aa] at c1 f1 s1
 try simp only [zL] at c1 f1 s1
 try simp only [zD] at c1 f1 s1
 try simp only [zS] at c1 f1 s1
 have z10:w.heap.size < w1.heap.size:=by omega
 have y10:w.heap.size≤w1.heap.size:=by omega
 have k10:=fun o => c1 (w.heap.size) o (by omega)
 have j10:=fun o => f1 (w.heap.size) o (by omega)
 have z11:w.heap.size + 1 < w1.heap.size:=by omega
 have k11:=fun o => c1 (w.heap.size + 1) o (by omega)
 have j11:=fun o => f1 (w.heap.size + 1) o (by omega)
 have gA:=gZ.trans g1;go_wp2_with fail;go_wp2_with fail;refine (htk.out _ gA).mono ?_;rintro e w2 ⟨rfl,g2⟩;obtain ⟨c2,f2,s2⟩:=g2.cells;try simp only [Aa] at c2 f2 s2
 try simp only [zL] at c2 f2 s2
 try simp only [zD] at c2 f2 s2
 try simp only [zS] at c2 f2 s2
 have z20:w.heap.size < w2.heap.size:=by omega
 have y20:w.heap.size≤w2.heap.size:=by omega
 have k20:=fun o => c2 (w.heap.size) o (by omega)
 have j20:=fun o => f2 (w.heap.size) o (by omega)
 have z21:w.heap.size + 1 < w2.heap.size:=by omega
 have k21:=fun o => c2 (w.heap.size + 1) o (by omega)
 have j21:=fun o => f2 (w.heap.size + 1) o (by omega)
 have gB:=gA.trans g2;go_wp2_with fail;go_loopw [62,15,16] (fun iv nv mv wr => ∃ k:Nat,k≤l.length∧iv = .int .i64 k∧nv = .int .i64 (BL (l.take k))∧mv = .int .i64 (Bg (l.take k))∧Gr (w2.alloc (.cells #[.int .u64 (AV (Aq l).1),.int .u64 (AR (Aq l).1),.int .u64 (AV (Aq l).2),.int .u64 (AR (Aq l).2)] 195)) wr) (fun iv _ _ _ => l.length - (intOf iv).toNat);case atStart => exact ⟨0,Nat.zero_le _,rfl,rfl,rfl,Gr.refl _⟩
 case round =>
  obtain ⟨k,hk,rfl,rfl,rfl,hg⟩:=hrel;obtain ⟨cg,fg,sg⟩:=hg.cells;simp only [zL] at cg fg sg;have k1:=fun o => cg w.heap.size o (by omega)
  have k2:=fun o => cg (w.heap.size + 1) o (by omega)
  have k3:=fun o => cg w2.heap.size o (by omega)
  clear cg fg;have gall:Gr w wr:=(gB.alloc _).trans hg;by_cases hlt:k < l.length
  ·obtain ⟨x,hx⟩:=Ac l k hlt;obtain ⟨b,off,rfl,hb,d0,d1,d2,d3⟩:=(hl.gr gall) k x hx;have hq1:=hQ.out k;have hq2:=hQ.out (k + 1);have hm1:=hM.out k;have hleg:=BQ hok.out hx;have hnext:BL (l.take (k + 1)) = BL (l.take k) + x.c:=by unfold BL;rw [Ae hx,A6]
   have hnext2:Bg (l.take (k + 1)) = max (Bg (l.take k)) x.s:=by rw [Ae hx,DK]
   rw [hnext] at hq2;obtain ⟨q1,q2⟩:=hq1;obtain ⟨q3,q4⟩:=hq2;obtain ⟨m1,m2⟩:=hm1;obtain ⟨x1,x2,x3,x4,x5,x6⟩:=hleg;replace hnext:=zH hnext;replace hx:=zH hx;by_cases hmx:Bg (l.take k) < x.s
   ·have hn3:Bg (l.take (k + 1)) = x.s:=by omega
    clear hnext2;replace hn3:=zH hn3;go_wp2_with fail;go_roundw;case rel => exact ⟨k + 1,by omega,by go_num,by rw [hnext.out],by rw [hn3.out];first | rfl | go_num | (congr 1;omega),hg.trans ((Gr.refl _).alloc _)⟩
    case measure => simp [intOf];omega
   ·have hn3:Bg (l.take (k + 1)) = Bg (l.take k):=by omega
    clear hnext2;replace hn3:=zH hn3;go_wp2_with fail;go_roundw;case rel => exact ⟨k + 1,by omega,by go_num,by rw [hnext.out],by rw [hn3.out];first | rfl | go_num | (congr 1;omega),hg.trans ((Gr.refl _).alloc _)⟩
    case measure => simp [intOf];omega
  ·have hall:l.take k = l:=List.take_of_length_le (by omega);rw [hall];have hs1:IntKind.i64.wrap (BL l + Bg l) = BL l + Bg l:=by rw [IntKind.wrap_i64];omega
   go_wp2_with fail;have c0:wr.cell? ⟨w.heap.size,0,none⟩ = some (.int .i64 s.k):=by simp (maxDischargeDepth:=8) [go_sem, *]
   have c1:wr.cell? ⟨w.heap.size,1,none⟩ = some (.int .i64 s.q):=by simp (maxDischargeDepth:=8) [go_sem, *]
   have c2:wr.cell? ⟨w.heap.size,2,none⟩ = some (.int .i64 s.t):=by simp (maxDischargeDepth:=8) [go_sem, *]
   have c3:wr.cell? ⟨w.heap.size + 1,0,none⟩ = some (.slice a l.length c):=by simp (maxDischargeDepth:=8) [go_sem, *]
   have z1:w.heap.size < wr.heap.size:=by omega
   have z2:w.heap.size + 1 < wr.heap.size:=by omega
   have z3:w2.heap.size < wr.heap.size:=by omega
   go_region_held3 (fun w' => w'.cell? ⟨w.heap.size,0,none⟩ = some (.int .i64 s.k)∧w'.cell? ⟨w.heap.size,1,none⟩ = some (.int .i64 s.q)∧w'.cell? ⟨w.heap.size,2,none⟩ = some (.int .i64 s.t)∧w'.cell? ⟨w.heap.size + 1,0,none⟩ = some (.slice a l.length c)∧w'.cell? ⟨w2.heap.size,0,none⟩ = some (.int .u64 (AV (Aq l).1))∧w'.cell? ⟨w2.heap.size,1,none⟩ = some (.int .u64 (AR (Aq l).1))∧w'.cell? ⟨w2.heap.size,2,none⟩ = some (.int .u64 (AV (Aq l).2))∧w'.cell? ⟨w2.heap.size,3,none⟩ = some (.int .u64 (AR (Aq l).2))) (simp (maxDischargeDepth:=8) [go_sem, *])
    (first
     | (go_at_call 201;(with_reducible refine (hln.out _ (gall.drew)).mono ?_);rintro e w4 ⟨rfl,g4⟩;obtain ⟨c4,f4,s4⟩:=g4.cells;simp only [World.size_drew] at c4 f4 s4;have k4:=fun o => c4 w.heap.size o (by omega);have k5:=fun o => c4 (w.heap.size + 1) o (by omega);have k6:=fun o => c4 w2.heap.size o (by omega);clear c4 f4;have gall4:=(gall.drew).trans g4;replace gall4:=zH gall4)
     | (go_at_call 215;(with_reducible refine (hst.out _ gall4.out).mono ?_);rintro e w5 ⟨aS,lS,cS,rfl,hS4,hSd,hS,g5⟩;obtain ⟨c5,f5,s5⟩:=g5.cells;have k7:=fun o => c5 w.heap.size o (by omega);have k8:=fun o => c5 (w.heap.size + 1) o (by omega);have k9:=fun o => c5 w2.heap.size o (by omega);clear c5 f5;have gall5:=gall4.out.trans g5;refine B0 ?_ gall5 hS hSd hS4;clear gall5 hS hSd hS4;intro gall5 hS hSd hS4)
     | (go_at_call 202;(with_reducible refine (hbl2.out aS lS cS _ (w.heap.size + 1) gall5.out hS4.out hSd.out hS.out (by simp (maxDischargeDepth:=8) [go_sem, *])).mono ?_);rintro e w6 ⟨rfl,g6⟩;obtain ⟨c6,f6,s6⟩:=g6.cells;have k10:=fun o => c6 w.heap.size o (by omega);have k11:=fun o => c6 (w.heap.size + 1) o (by omega);have k12:=fun o => c6 w2.heap.size o (by omega);clear c6 f6;have gall6:=gall5.out.trans g6;replace gall6:=zH gall6)
     | fail)
   all_goals go_wp2_with fail
   all_goals go_ret
   all_goals exact ⟨rfl,gall6.out⟩
theorem Km {G:List Nat} {E:Nat→Addr} (s:Ao) (a:Option Addr) (l:List AA) (c:Nat) (w:World) (hE:CK G E w) (i0:9 ∈ G) (i1:11 ∈ G) (h:AE s = true) (hl:A1 w a l) (hg:AW 1 l = true) (hb1:BU s (Aq l) (BL l + Bg l) = true) (hb2:Hv s l = false) :
 Calls Tryz.prog 170 #[.agg #[.int .i64 s.k,.int .i64 s.q,.int .i64 s.t],.int .i64 1,.slice a l.length c] w fun e w' => e = .returned (Value.iface 384 (.pointer (some (E 11))))∧Gr w w':=by
 have hsi:=fun w => BM s w h
 have hcg:=fun w' (g:Gr w w') => Ck 1 a l c w' (hl.gr g) hg
 obtain ⟨_,_,hok⟩:=(Bj 1 l).1 hg;have h8:=(Ay hok).2;have htk:=fun w' (g:Gr w w') => DE a l c w' (hl.gr g) hok
 have hsh:=D0 hok;have hq:=DY hok l.length;have hs:=D8 hok l.length;rw [List.take_length] at hq hs;obtain ⟨hq1,hq2⟩:=hq;obtain ⟨hs1,hs2⟩:=hs;have hln:=fun w' (g:Gr w w') => DL s (Aq l) (BL l + Bg l) w' (hE.gr g) i0 h hsh (by omega) (by omega)
 rw [hb1] at hln;have hst:=fun w' (g:Gr w w') => E1 a l c w' (hl.gr g) hok
 have hbl:=fun aL ls cL w' lb (g:Gr w w') h40 (hde:Dv l ls) hL hc => Gs s aL ls cL lb a l c w' h hL h40 (fun x hx => ⟨by have:=FD hok ((hde x).1 hx).2;omega,by have:=((hde x).1 hx).1;omega⟩) (hl.gr g) (fun x hx => L6 hok hx) hok hc
 have hbd:=fun ls (hde:Dv l ls) => Gt (s:=s) hok hde
 rw [hb2] at hbd;have hbl2:∀ aL ls cL w' lb,Gr w w'→ls.length≤40000→Dv l ls→Dl w' aL ls→w'.cell? ⟨lb,0,none⟩ = some (.slice a l.length c)→Calls Tryz.prog 202 #[.agg #[.int .i64 s.k,.int .i64 s.q,.int .i64 s.t],.slice aL ls.length cL,.func (.func 213) #[] #[.pointer (some ⟨lb,0,none⟩)]] w' fun e w'' => e = .returned (.bool false)∧Gr w' w'':=fun aL ls cL w' lb g h40 hde hL hc => by
  have:=hbl aL ls cL w' lb g h40 hde hL hc;rw [hbd ls hde] at this;exact this
 clear hbl hbd;refine AZ ?_ hst hbl2 hb2;clear hst hbl2 hb2;intro hst hbl2 hb2;have hQ:=DY hok;have hM:=D8 hok;refine Br ?_ hsi hcg htk hln hQ hM hok hsh;clear hsi hcg htk hln hQ hM hok hsh;intro hsi hcg htk hln hQ hM hok hsh;refine AZ ?_ hb1 h hg;clear hb1 h hg;intro hb1 h hg;go_enter Tryz.func170,Tryz.ntmps170;go_wp2_with fail;refine (hsi.out _).mono ?_;rintro e w0 ⟨rfl,g0⟩;obtain ⟨c0,f0,s0⟩:=g0.cells;try simp only [Aa] at c0 f0 s0
 try simp only [zL] at c0 f0 s0
 try simp only [zD] at c0 f0 s0
 try simp only [zS] at c0 f0 s0
 have z00:w.heap.size < w0.heap.size:=by omega
 have y00:w.heap.size≤w0.heap.size:=by omega
 have k00:=fun o => c0 (w.heap.size) o (by omega)
 have j00:=fun o => f0 (w.heap.size) o (by omega)
 have z01:w.heap.size + 1 < w0.heap.size:=by omega
 have k01:=fun o => c0 (w.heap.size + 1) o (by omega)
 have j01:=fun o => f0 (w.heap.size + 1) o (by omega)
 have gZ:Gr w w0:=(((Gr.refl w).alloc _).alloc _).trans g0;go_wp2_with fail;go_wp2_with fail;refine (hcg.out _ gZ).mono ?_;rintro e w1 ⟨rfl,g1⟩;obtain ⟨c1,f1,s1⟩:=g1.cells;try simp only [Aa] at c1 f1 s1
 try simp only [zL] at c1 f1 s1
 try simp only [zD] at c1 f1 s1
 try simp only [zS] at c1 f1 s1
 have z10:w.heap.size < w1.heap.size:=by omega
 have y10:w.heap.size≤w1.heap.size:=by omega
 have k10:=fun o => c1 (w.heap.size) o (by omega)
 have j10:=fun o => f1 (w.heap.size) o (by omega)
 have z11:w.heap.size + 1 < w1.heap.size:=by omega
 have k11:=fun o => c1 (w.heap.size + 1) o (by omega)
 have j11:=fun o => f1 (w.heap.size + 1) o (by omega)
 have gA:=gZ.trans g1;go_wp2_with fail;go_wp2_with fail;refine (htk.out _ gA).mono ?_;rintro e w2 ⟨rfl,g2⟩;obtain ⟨c2,f2,s2⟩:=g2.cells;try simp only [Aa] at c2 f2 s2
 try simp only [zL] at c2 f2 s2
 try simp only [zD] at c2 f2 s2
 try simp only [zS] at c2 f2 s2
 have z20:w.heap.size < w2.heap.size:=by omega
 have y20:w.heap.size≤w2.heap.size:=by omega
 have k20:=fun o => c2 (w.heap.size) o (by omega)
 have j20:=fun o => f2 (w.heap.size) o (by omega)
 have z21:w.heap.size + 1 < w2.heap.size:=by omega
 have k21:=fun o => c2 (w.heap.size + 1) o (by omega)
 have j21:=fun o => f2 (w.heap.size + 1) o (by omega)
 have gB:=gA.trans g2;go_wp2_with fail;go_loopw [62,15,16] (fun iv nv mv wr => ∃ k:Nat,k≤l.length∧iv = .int .i64 k∧nv = .int .i64 (BL (l.take k))∧mv = .int .i64 (Bg (l.take k))∧Gr (w2.alloc (.cells #[.int .u64 (AV (Aq l).1),.int .u64 (AR (Aq l).1),.int .u64 (AV (Aq l).2),.int .u64 (AR (Aq l).2)] 195)) wr) (fun iv _ _ _ => l.length - (intOf iv).toNat);case atStart => exact ⟨0,Nat.zero_le _,rfl,rfl,rfl,Gr.refl _⟩
 case round =>
  obtain ⟨k,hk,rfl,rfl,rfl,hg⟩:=hrel;obtain ⟨cg,fg,sg⟩:=hg.cells;simp only [zL] at cg fg sg;have k1:=fun o => cg w.heap.size o (by omega)
  have k2:=fun o => cg (w.heap.size + 1) o (by omega)
  have k3:=fun o => cg w2.heap.size o (by omega)
  clear cg fg;have gall:Gr w wr:=(gB.alloc _).trans hg;by_cases hlt:k < l.length
  ·obtain ⟨x,hx⟩:=Ac l k hlt;obtain ⟨b,off,rfl,hb,d0,d1,d2,d3⟩:=(hl.gr gall) k x hx;have hq1:=hQ.out k;have hq2:=hQ.out (k + 1);have hm1:=hM.out k;have hleg:=BQ hok.out hx;have hnext:BL (l.take (k + 1)) = BL (l.take k) + x.c:=by unfold BL;rw [Ae hx,A6]
   have hnext2:Bg (l.take (k + 1)) = max (Bg (l.take k)) x.s:=by rw [Ae hx,DK]
   rw [hnext] at hq2;obtain ⟨q1,q2⟩:=hq1;obtain ⟨q3,q4⟩:=hq2;obtain ⟨m1,m2⟩:=hm1;obtain ⟨x1,x2,x3,x4,x5,x6⟩:=hleg;replace hnext:=zH hnext;replace hx:=zH hx;by_cases hmx:Bg (l.take k) < x.s
   ·have hn3:Bg (l.take (k + 1)) = x.s:=by omega
    clear hnext2;replace hn3:=zH hn3;go_wp2_with fail;go_roundw;case rel => exact ⟨k + 1,by omega,by go_num,by rw [hnext.out],by rw [hn3.out];first | rfl | go_num | (congr 1;omega),hg.trans ((Gr.refl _).alloc _)⟩
    case measure => simp [intOf];omega
   ·have hn3:Bg (l.take (k + 1)) = Bg (l.take k):=by omega
    clear hnext2;replace hn3:=zH hn3;go_wp2_with fail;go_roundw;case rel => exact ⟨k + 1,by omega,by go_num,by rw [hnext.out],by rw [hn3.out];first | rfl | go_num | (congr 1;omega),hg.trans ((Gr.refl _).alloc _)⟩
    case measure => simp [intOf];omega
  ·have hall:l.take k = l:=List.take_of_length_le (by omega);rw [hall];have hs1:IntKind.i64.wrap (BL l + Bg l) = BL l + Bg l:=by rw [IntKind.wrap_i64];omega
   go_wp2_with fail;have c0:wr.cell? ⟨w.heap.size,0,none⟩ = some (.int .i64 s.k):=by simp (maxDischargeDepth:=8) [go_sem, *]
   have c1:wr.cell? ⟨w.heap.size,1,none⟩ = some (.int .i64 s.q):=by simp (maxDischargeDepth:=8) [go_sem, *]
   have c2:wr.cell? ⟨w.heap.size,2,none⟩ = some (.int .i64 s.t):=by simp (maxDischargeDepth:=8) [go_sem, *]
   have c3:wr.cell? ⟨w.heap.size + 1,0,none⟩ = some (.slice a l.length c):=by simp (maxDischargeDepth:=8) [go_sem, *]
   have z1:w.heap.size < wr.heap.size:=by omega
   have z2:w.heap.size + 1 < wr.heap.size:=by omega
   have z3:w2.heap.size < wr.heap.size:=by omega
   go_region_held3 (fun w' => w'.cell? ⟨w.heap.size,0,none⟩ = some (.int .i64 s.k)∧w'.cell? ⟨w.heap.size,1,none⟩ = some (.int .i64 s.q)∧w'.cell? ⟨w.heap.size,2,none⟩ = some (.int .i64 s.t)∧w'.cell? ⟨w.heap.size + 1,0,none⟩ = some (.slice a l.length c)∧w'.cell? ⟨w2.heap.size,0,none⟩ = some (.int .u64 (AV (Aq l).1))∧w'.cell? ⟨w2.heap.size,1,none⟩ = some (.int .u64 (AR (Aq l).1))∧w'.cell? ⟨w2.heap.size,2,none⟩ = some (.int .u64 (AV (Aq l).2))∧w'.cell? ⟨w2.heap.size,3,none⟩ = some (.int .u64 (AR (Aq l).2))) (simp (maxDischargeDepth:=8) [go_sem, *])
    (first
     | (go_at_call 201;(with_reducible refine (hln.out _ (gall.drew)).mono ?_);rintro e w4 ⟨rfl,g4⟩;obtain ⟨c4,f4,s4⟩:=g4.cells;simp only [World.size_drew] at c4 f4 s4;have k4:=fun o => c4 w.heap.size o (by omega);have k5:=fun o => c4 (w.heap.size + 1) o (by omega);have k6:=fun o => c4 w2.heap.size o (by omega);clear c4 f4;have gall4:=(gall.drew).trans g4;replace gall4:=zH gall4)
     | (go_at_call 215;(with_reducible refine (hst.out _ gall4.out).mono ?_);rintro e w5 ⟨aS,lS,cS,rfl,hS4,hSd,hS,g5⟩;obtain ⟨c5,f5,s5⟩:=g5.cells;have k7:=fun o => c5 w.heap.size o (by omega);have k8:=fun o => c5 (w.heap.size + 1) o (by omega);have k9:=fun o => c5 w2.heap.size o (by omega);clear c5 f5;have gall5:=gall4.out.trans g5;refine B0 ?_ gall5 hS hSd hS4;clear gall5 hS hSd hS4;intro gall5 hS hSd hS4)
     | (go_at_call 202;(with_reducible refine (hbl2.out aS lS cS _ (w.heap.size + 1) gall5.out hS4.out hSd.out hS.out (by simp (maxDischargeDepth:=8) [go_sem, *])).mono ?_);rintro e w6 ⟨rfl,g6⟩;obtain ⟨c6,f6,s6⟩:=g6.cells;have k10:=fun o => c6 w.heap.size o (by omega);have k11:=fun o => c6 (w.heap.size + 1) o (by omega);have k12:=fun o => c6 w2.heap.size o (by omega);clear c6 f6;have gall6:=gall5.out.trans g6;replace gall6:=zH gall6)
     | fail)
   all_goals (have he:=(hE.gr gall6.out).c0 i1)
   all_goals go_wp2_with fail
   all_goals go_ret
   all_goals exact ⟨rfl,gall6.out⟩
theorem Ba {α:Type} {k:Nat} {enc:α→List Value} {P:Program} {ops:Array Oper} {o:Oper} {a:Act} {w:World} {K:Act→World→Prop} {Q:Exit→Act→World→Prop} {E:Prop} (hgd:o.guard = none) (s x:Operand) (t:TypeId)
 (ho:o.op = .call { callee:=.builtin .append,args:=#[s,x],argTypes:=#[t,t] })
 (base:Nat) (e:TypeId) (i:TypeInfo) (z:Value) (bytes:Nat) (ht:P.underlying t = some (.slice e)) (hi:P.info? e = some i) (hz:i.zero = some z)
 (hsize:i.size = k) (hby:i.bytes = bytes) (hzs:z.cells.size = k) (hsz:0 < k)
 (hk:∀ s,(enc s).length = k) (h1:∀ s,∀ u ∈ enc s,u.oneCell' = true)
 (v:Value) (l0:List α) (hs:a.eval s = v) (hown:w.ownsRow base e k v l0.length (l0.flatMap enc))
 (ad:Addr) (m c:Nat) (l:List α) (hm:l.length = m) (hx:a.eval x = .slice (some ad) m c) (hl:Al k enc w (some ad) l)
 (h63:l0.length + m≤maxLen) (hbytes:(l0.length + m) * bytes≤140737488355328) (hbase:base≤w.heap.size)
 (h:∀ v' w',w'.ownsRow base e k v' (l0 ++ l).length ((l0 ++ l).flatMap enc)→w.grownBy w' v.ownBlock→K (a.put o.dst v') w') :
 if Region.wanted o (yielded ops a.tmps) = true then Oper.wp P o a w K Q else E:=by
 subst hm;have hw:Region.wanted o (yielded ops a.tmps) = true:=by simp [Region.wanted,hgd]
 rw [if_pos hw];refine wp_append_own w s x t ho base e i z k bytes ht hi hz hsize hby hzs hsz v l0.length (l0.flatMap enc) hs hown ad l.length c (l.flatMap enc) hx (BZ hk l) ?_ ?_ h63 hbytes hbase ?_
 ·intro j u hj;obtain ⟨y,hy,hu⟩:=Jm hk hsz l j u hj;obtain ⟨b,off,hh,_,hcell⟩:=hl _ y hy;obtain rfl:=Option.some.inj hh;have:=hcell _ u hu;have e1:off + j / k * k + j % k = off + j:=by rw [Nat.add_assoc,Nat.mul_comm,Nat.div_add_mod]
  rw [e1] at this;unfold Addr.add;by_cases hj0:j = 0
  ·subst hj0;simpa using this
  ·simpa [hj0] using this
 ·intro u hu;obtain ⟨y,_,hy⟩:=List.mem_flatMap.1 hu;exact h1 y u hy
 ·intro v' w' ho' hg' _;exact h v' w' (by simpa using ho') hg'
def BN (l:List Ao) (n:Int):Int:=A0 (fun s => BI s n) l
theorem NP {x:Ao} (hx:OE x) (n:Int):BI x n * x.t≤x.q * n + x.q * (2 * x.t):=by
 obtain ⟨_,_,h3,h4,h5⟩:=hx;have h1:=Int.ediv_mul_le (n + x.t - 1) (show x.t ≠ 0 by omega);have h2:x.q * (JB n x.t * x.t)≤x.q * (n + x.t):=Int.mul_le_mul_of_nonneg_left (by unfold JB;omega) (by omega);have h6:0≤x.q * x.t:=Int.mul_nonneg (by omega) (by omega);have e1:JB n x.t * x.q * x.t = x.q * (JB n x.t * x.t):=by rw [Int.mul_comm (JB n x.t) x.q,Int.mul_assoc]
 have e2:x.q * (n + x.t) = x.q * n + x.q * x.t:=Int.mul_add ..;have e3:x.q * (2 * x.t) = x.q * x.t + x.q * x.t:=by rw [Int.mul_left_comm];omega
 unfold BI;split
 ·rw [Int.add_mul,e1,e3];omega
 ·rw [e1,e3];omega
theorem Mx (n:Int):∀ (l:List Ao),AY l = true→(Ah l).2 * BN l n≤(Ah l).1 * n + (Ah l).2 * (2 * Bl l):=by
 have key:∀ (k:Nat) (l:List Ao),l.length = k→AY l = true→(Ah l).2 * BN l n≤(Ah l).1 * n + (Ah l).2 * (2 * Bl l)∧0≤(Ah l).2:=by
  intro k;induction k with
  | zero =>
   intro l hl _;obtain rfl:=List.length_eq_zero_iff.1 hl;simp [Ah,BN,Bl,A0]
  | succ k ih =>
   intro l hl hal;obtain ⟨m,x,rfl⟩:∃ m x,l = m ++ [x]:=by
    have hne:l ≠ []:=fun e => by rw [e] at hl;cases hl
    exact ⟨l.dropLast,l.getLast hne,(List.dropLast_concat_getLast hne).symm⟩
   rw [EE,Bool.and_eq_true] at hal;obtain ⟨h1,h2⟩:=ih m (by simpa using hl) hal.1;have hx:=(Ao.leg_iff x).1 hal.2;have h3:=NP hx n;obtain ⟨_,_,x3,x4,x5⟩:=hx;have e1:BN (m ++ [x]) n = BN m n + BI x n:=A6 _ m x;have e2:Bl (m ++ [x]) = Bl m + x.q:=A6 _ m x;rw [CU,e1,e2];simp only [CI];have a1:=Int.mul_le_mul_of_nonneg_left h1 (show 0≤x.t by omega);have a2:=Int.mul_le_mul_of_nonneg_left h3 h2;refine ⟨?_,Int.mul_nonneg h2 (by omega)⟩;have b1:(Ah m).2 * x.t * (BN m n + BI x n) = x.t * ((Ah m).2 * BN m n) + (Ah m).2 * (BI x n * x.t):=by
    rw [Int.mul_add,Int.mul_assoc,Int.mul_assoc,Int.mul_comm x.t (BI x n),Int.mul_left_comm]
   have b2:((Ah m).1 * x.t + (Ah m).2 * x.q) * n + (Ah m).2 * x.t * (2 * (Bl m + x.q)) = x.t * ((Ah m).1 * n + (Ah m).2 * (2 * Bl m)) + (Ah m).2 * (x.q * n + x.q * (2 * x.t)):=by
    simp only [Int.add_mul,Int.mul_add,Int.mul_assoc,Int.mul_comm,Int.mul_left_comm];omega
   rw [b1,b2];omega
 intro l hal;exact (key l.length l rfl hal).1
theorem HA {s:Ao} {l:List Ao} (h:Am s l = none):BN l 4096≤Au (Ak s) 4096:=by
 obtain ⟨hp,hs,hl,hb⟩:=Df h;obtain ⟨hal,h8⟩:=Ce hs;have hd:=Mx 4096 l hal;exact Kg (n:=4096) hp (E9 hs) hl (by omega) hd
def Bo (s:Ao) (l:List Ao):Nat:=(((List.range 4096).find? fun (k:Nat) => decide (BN l ((k:Int) + 1)≤Au (Ak s) ((k:Int) + 1))).map (· + 1)).getD 4096
theorem F4 {s:Ao} {l:List Ao} {d:Nat} (h1:1≤d) (h2:d≤4096) (h3:BN l d≤Au (Ak s) d) (h4:∀ k:Nat,1≤k→k < d→¬ BN l k≤Au (Ak s) k):Bo s l = d:=by
 obtain ⟨n,rfl⟩:∃ n,d = n + 1:=⟨d - 1,by omega⟩
 have h5:(List.range 4096).find? (fun (k:Nat) => decide (BN l ((k:Int) + 1)≤Au (Ak s) ((k:Int) + 1))) = some n:=by
  rw [List.find?_range_eq_some];refine ⟨by simpa using h3,by simp;omega,fun j hj => ?_⟩;have:=h4 (j + 1) (by omega) (by omega);simpa using this
 unfold Bo;rw [h5];rfl
def Bb (s:Ao) (p:Int) (l:List AA):Option Nat:=if AE s = false then some 9 else if AW p l = false then some 10 else if p = 2 then (if DP s l = false then some 11 else none) else if BU s (Aq l) (BL l + Bg l) = false then some 11 else if Hv s l = false then some 11 else none
abbrev AU:Ao:=⟨0,0,0⟩
def Ab.find (t:Ab) (id:Int):Option Nd:=t.nodes.find? fun n => decide (n.id = id)
def Ab.counted (t:Ab) (id:Int):List Ao:=(t.nodes.filter fun n => decide (n.par = id)).map (·.srv) ++ (t.ghosts.filter fun g => decide (g.par = id)).map (·.srv)
def Ab.server (t:Ab) (id:Int):Option Ao:=if id = 0 then some AU else (t.find id).map (·.srv)
def Ab.depthF (t:Ab):Nat→Int→Int→Int
 | 0,_,_ => -1
 | n + 1,id,d => if id = 0 then d else match t.find id with
  | none => -1
  | some x => t.depthF n x.par (d + 1)
def Ab.depth (t:Ab) (id:Int):Int:=t.depthF (id.toNat + 1) id 0
def Ab.drained (t:Ab) (p:Int):Ab :=
 let s:=(t.server p).getD AU
 if Am s (t.counted p) = none then {t with ghosts:=t.ghosts.map fun g => if g.par = p then {g with till:=max g.till (t.now + Bo s (t.counted p))} else g} else t
structure A8 where
 kd:Int
 id:Int
 srv:Ao
 pol:Int
 tasks:List AA
 at_:Int
def Ab.loose (t:Ab) (id:Int):Int:=match t.find id with
 | none => 1
 | some _ => if t.counted id ≠ [] then 2 else 0
def Ab.create (t:Ab) (o:A8):Ab × Int × Int :=
 if o.srv.leg = false then (t,7,0) else match t.server o.id with
 | none => (t,1,0)
 | some s => if ((t.find o.id).map (·.pol)).getD 0 ≠ 0 then (t,3,0) else if 4≤t.depth o.id then (t,6,0) else
  if 64≤t.nodes.length ∨ 8≤(t.counted o.id).length then (t,5,0) else
  if Am s (t.counted o.id ++ [o.srv]) ≠ none then (t,4,0) else
  (({t with last:=t.last + 1,nodes:=t.nodes ++ [(⟨t.last + 1,o.id,o.srv,0,[]⟩:Nd)]}).drained o.id,0,t.last + 1)
def Bu (l:List Nd) (id:Int) (f:Nd→Nd):List Nd:=l.map fun n => if n.id = id then f n else n
def Ab.resize (t:Ab) (o:A8):Ab × Int × Int :=
 if o.srv.leg = false then (t,7,0) else if t.loose o.id ≠ 0 then (t,t.loose o.id,0) else match t.find o.id with
 | none => (t,1,0)
 | some n => if n.pol ≠ 0 then (t,3,0) else
  let s:=(t.server n.par).getD AU
  if 8≤(t.counted n.par).length then (t,5,0) else
  if Am s (t.counted n.par ++ [o.srv]) ≠ none then (t,4,0) else
  (({t with nodes:=Bu t.nodes o.id fun n => {n with srv:=o.srv},ghosts:=t.ghosts ++ [(⟨n.par,n.srv,0⟩:Gh)]}).drained n.par,0,o.id)
def Ab.remove (t:Ab) (o:A8):Ab × Int × Int :=
 if t.loose o.id ≠ 0 then (t,t.loose o.id,0) else match t.find o.id with
 | none => (t,1,0)
 | some n =>
  let t1:Ab:={t with nodes:=t.nodes.filter fun x => decide (x.id ≠ o.id),ghosts:=t.ghosts ++ [(⟨n.par,n.srv,0⟩:Gh)]}
  let s:=(t1.server n.par).getD AU
  let till:=if Am s (t1.counted n.par) = none then t.now + Bo s (t1.counted n.par) else 0
  ({t1 with ghosts:=t.ghosts ++ [(⟨n.par,n.srv,till⟩:Gh)]},0,o.id)
def Ab.bind (t:Ab) (o:A8):Ab × Int × Int :=
 if AW o.pol o.tasks = false then (t,8,0) else if t.loose o.id ≠ 0 then (t,t.loose o.id,0) else match t.find o.id with
 | none => (t,1,0)
 | some n => if n.pol ≠ 0 then (t,3,0) else if Bb n.srv o.pol o.tasks ≠ none then (t,4,0) else
  ({t with nodes:=Bu t.nodes o.id fun n => {n with pol:=o.pol,tasks:=o.tasks}},0,o.id)
def Ab.tick (t:Ab) (n:Int):Ab:={t with now:=max t.now n,ghosts:=t.ghosts.filter fun g => decide (max t.now n < g.till)}
def Ab.apply (t:Ab) (o:A8):Ab × Int × Int :=
 if o.kd < 1 ∨ 4 < o.kd ∨ o.at_ < 0 ∨ 1099511627776 < o.at_ then (t,7,0) else
 let u:=t.tick o.at_
 if o.kd = 1 then u.create o else if o.kd = 2 then u.resize o else if o.kd = 3 then u.remove o else u.bind o
theorem MY {G:List Nat} {E:Nat→Addr} (s:Ao) (p:Int) (a:Option Addr) (l:List AA) (c:Nat) (w:World) (hE:CK G E w) (i0:9 ∈ G) (i1:11 ∈ G) (i4:10 ∈ G) (hl:A1 w a l) (hm:l.length≤maxLen) :
 Calls Tryz.prog 170 #[.agg #[.int .i64 s.k,.int .i64 s.q,.int .i64 s.t],.int .i64 p,.slice a l.length c] w fun e w' => e = .returned (Ok E (Bb s p l))∧Gr w w':=by
 unfold Bb;cases hp:AE s with
 | false => rw [if_pos rfl];exact MW s p a l c w hE i0 hp
 | true =>
  rw [if_neg (by decide)];cases hg:AW p l with
  | false => rw [if_pos rfl];exact MX s p a l c w hE i4 hp hl hm hg
  | true =>
   rw [if_neg (by decide)];by_cases h2:p = 2
   ·subst h2;rw [if_pos rfl];have h1:=Lm s a l c w hE i1 hp hl hg;cases hf:DP s l with
    | false => rw [hf] at h1;rw [if_pos rfl];exact h1
    | true => rw [hf] at h1;rw [if_neg (by decide)];exact h1
   ·rw [if_neg h2];obtain rfl:p = 1:=by
     obtain ⟨h3,h4,_⟩:=(Bj p l).1 hg;omega
    cases hb1:BU s (Aq l) (BL l + Bg l) with
    | false => rw [if_pos rfl];exact Kn s a l c w hE i0 i1 hp hl hg hb1
    | true =>
     rw [if_neg (by decide)];cases hb2:Hv s l with
     | false => rw [if_pos rfl];exact Km s a l c w hE i0 i1 hp hl hg hb1 hb2
     | true => rw [if_neg (by decide)];exact Ln s a l c w hE i0 hp hl hg hb1 hb2
end Go.Proofs.YtdfelohjdkcpkaaGreatDoor
