/- wide.Against, wide.Cross, plan.Within. -/
import Derived.Test.YtdfelohjdkcpkaaGreatDoorK2
import Derived.Test.YtdfelohjdkcpkaaGreatDoorK3
import Derived.Outline
import Derived.Test.YtdfelohjdkcpkaaGreatDoorK1
namespace Go.Proofs.YtdfelohjdkcpkaaGreatDoor
open Go.RowKit
theorem cmp_words {a b:Int}:orI (cmpI (hiW a) (hiW b)) (cmpI (loW a) (loW b)) = cmpI a b:=by
 have e1:=word_eq a;have e2:=word_eq b;have l1:=loW_bd a;have l2:=loW_bd b;unfold orI cmpI;by_cases h1:hiW a < hiW b
 ·rw [if_pos h1,if_neg (by decide),if_pos (show a < b by omega)]
 ·by_cases h2:hiW b < hiW a
  ·rw [if_neg h1,if_pos h2,if_neg (by decide),if_neg (show ¬ a < b by omega),if_pos (show b < a by omega)]
  ·rw [if_neg h1,if_neg h2,if_pos rfl];by_cases h3:loW a < loW b
   ·rw [if_pos h3,if_pos (show a < b by omega)]
   ·by_cases h4:loW b < loW a
    ·rw [if_neg h3,if_pos h4,if_neg (show ¬ a < b by omega),if_pos (show b < a by omega)]
    ·rw [if_neg h3,if_neg h4,if_neg (show ¬ a < b by omega),if_neg (show ¬ b < a by omega)]
theorem compare_cmp (a b:Int) (w:World) :
 Calls Tryz.prog 264 #[.agg #[.int .u64 (hiW a),.int .u64 (loW a)],.agg #[.int .u64 (hiW b),.int .u64 (loW b)]] w fun e w' => e = .returned (.int .i64 (cmpI a b))∧Gr w w':=by
 have:=compare_any a b w;rw [cmp_words] at this;exact this
set_option maxHeartbeats 800000 in
theorem against_yes (n d q t:Int) (w:World) (hn:Wide n) (hd:Wide d) (h0:0 < d) (hq:0≤q) (hq':q≤4294967296) (ht:1≤t) (ht':t≤4294967296) (h1:Wide (n * t)) (h2:Wide (d * q)) :
 Calls Tryz.prog 238 #[.agg #[.int .u64 (hiW n),.int .u64 (loW n),.int .u64 (hiW d),.int .u64 (loW d)],.int .i64 q,.int .i64 t] w fun e w' => e = .returned (.tuple #[.int .i64 (cmpI (n * t) (d * q)),.bool true])∧Gr w w':=by
 have wq:Word q:=⟨hq,by omega⟩
 have wt:Word t:=⟨by omega,by omega⟩
 go_enter Tryz.func238,Tryz.ntmps238;go_wp2_with fail;refine (legal_any n d q t _ hd h0 hq ht).mono ?_;rintro e wa ⟨rfl,ga⟩;obtain ⟨ca,fa,sa⟩:=ga.cells;try simp only [size_drewN] at ca fa sa
 try simp only [World.size_alloc] at ca fa sa
 try simp only [World.size_drew] at ca fa sa
 try simp only [World.size_setCell] at ca fa sa
 have za0:w.heap.size < wa.heap.size:=by omega
 have ya0:w.heap.size≤wa.heap.size:=by omega
 have ka0:=fun o => ca (w.heap.size) o (by omega)
 have ja0:=fun o => fa (w.heap.size) o (by omega)
 go_wp2_with fail;refine (mul_any n t _ hn wt h1).mono ?_;rintro e wb ⟨rfl,gb⟩;obtain ⟨cb,fb,sb⟩:=gb.cells;try simp only [size_drewN] at cb fb sb
 try simp only [World.size_alloc] at cb fb sb
 try simp only [World.size_drew] at cb fb sb
 try simp only [World.size_setCell] at cb fb sb
 have zb0:w.heap.size < wb.heap.size:=by omega
 have yb0:w.heap.size≤wb.heap.size:=by omega
 have kb0:=fun o => cb (w.heap.size) o (by omega)
 have jb0:=fun o => fb (w.heap.size) o (by omega)
 go_wp2_with fail;refine (mul_any d q _ hd wq h2).mono ?_;rintro e wc ⟨rfl,gc⟩;obtain ⟨cc,fc,sc⟩:=gc.cells;try simp only [size_drewN] at cc fc sc
 try simp only [World.size_alloc] at cc fc sc
 try simp only [World.size_drew] at cc fc sc
 try simp only [World.size_setCell] at cc fc sc
 have zc0:w.heap.size < wc.heap.size:=by omega
 have yc0:w.heap.size≤wc.heap.size:=by omega
 have kc0:=fun o => cc (w.heap.size) o (by omega)
 have jc0:=fun o => fc (w.heap.size) o (by omega)
 have zc1:wb.heap.size < wc.heap.size:=by omega
 have yc1:wb.heap.size≤wc.heap.size:=by omega
 have kc1:=fun o => cc (wb.heap.size) o (by omega)
 have jc1:=fun o => fc (wb.heap.size) o (by omega)
 go_wp2_with fail;refine (compare_cmp (n * t) (d * q) _).mono ?_;rintro e wd ⟨rfl,gd⟩;obtain ⟨cd,fd,sd⟩:=gd.cells;try simp only [size_drewN] at cd fd sd
 try simp only [World.size_alloc] at cd fd sd
 try simp only [World.size_drew] at cd fd sd
 try simp only [World.size_setCell] at cd fd sd
 have zd0:w.heap.size < wd.heap.size:=by omega
 have yd0:w.heap.size≤wd.heap.size:=by omega
 have kd0:=fun o => cd (w.heap.size) o (by omega)
 have jd0:=fun o => fd (w.heap.size) o (by omega)
 have zd1:wb.heap.size < wd.heap.size:=by omega
 have yd1:wb.heap.size≤wd.heap.size:=by omega
 have kd1:=fun o => cd (wb.heap.size) o (by omega)
 have jd1:=fun o => fd (wb.heap.size) o (by omega)
 have zd2:wc.heap.size < wd.heap.size:=by omega
 have yd2:wc.heap.size≤wd.heap.size:=by omega
 have kd2:=fun o => cd (wc.heap.size) o (by omega)
 have jd2:=fun o => fd (wc.heap.size) o (by omega)
 go_wp2_with fail;go_ret2;refine ⟨rfl,?_⟩;repeat (first | exact Gr.refl _ | apply Gr.alloc | apply Gr.drew | apply Gr.drewN | (refine Gr.setCell ?_ (by simp) _) | (refine Gr.trans ?_ (by assumption)))
set_option maxHeartbeats 800000 in
theorem legal_zero (n q t:Int) (w:World) :
 Calls Tryz.prog 261 #[.agg #[.int .u64 (hiW n),.int .u64 (loW n),.int .u64 0,.int .u64 0],.int .i64 q,.int .i64 t] w fun e w' => e = .returned (.bool false)∧Gr w w':=by
 go_enter Tryz.func261,Tryz.ntmps261;go_wp2;all_goals (go_ret;exact ⟨rfl,(Gr.refl _).alloc _⟩)
set_option maxHeartbeats 800000 in
theorem against_zero (n q t:Int) (w:World) :
 Calls Tryz.prog 238 #[.agg #[.int .u64 (hiW n),.int .u64 (loW n),.int .u64 0,.int .u64 0],.int .i64 q,.int .i64 t] w fun e w' => e = .returned (.tuple #[.int .i64 0,.bool false])∧Gr w w':=by
 go_enter Tryz.func238,Tryz.ntmps238;go_wp2_with fail;refine (legal_zero n q t _).mono ?_;rintro e wa ⟨rfl,ga⟩;obtain ⟨ca,fa,sa⟩:=ga.cells;try simp only [size_drewN] at ca fa sa
 try simp only [World.size_alloc] at ca fa sa
 try simp only [World.size_drew] at ca fa sa
 try simp only [World.size_setCell] at ca fa sa
 have za0:w.heap.size < wa.heap.size:=by omega
 have ya0:w.heap.size≤wa.heap.size:=by omega
 have ka0:=fun o => ca (w.heap.size) o (by omega)
 have ja0:=fun o => fa (w.heap.size) o (by omega)
 go_wp2_with fail;go_ret2;refine ⟨rfl,?_⟩;repeat (first | exact Gr.refl _ | apply Gr.alloc | apply Gr.drew | apply Gr.drewN | (refine Gr.setCell ?_ (by simp) _) | (refine Gr.trans ?_ (by assumption)))
def Shr (p:Int × Int):Prop:=0≤p.1∧p.1≤8 * 18446744073709551616∧1≤p.2∧p.2≤18446744073709551616
theorem shr_share {l:List Srv} (h:allLeg l = true) (h8:l.length≤8):Shr (shareS l):=by
 have b:=shareS_bd l h l.length (Nat.le_refl _);rw [List.take_length] at b;have p:=P256_le h8;have p0:=P256_pos l.length;have m:=(mul_bd (show (0:Int)≤(l.length:Int) by omega) (show (l.length:Int)≤8 by omega) (show 0≤P256 l.length by omega) p).2;exact ⟨b.1,by omega,b.2.2.1,by omega⟩
theorem against_shr (p:Int × Int) (q t:Int) (w:World) (hp:Shr p) (hq:0≤q) (hq':q≤4294967296) (ht:1≤t) (ht':t≤4294967296) :
 Calls Tryz.prog 238 #[partV p,.int .i64 q,.int .i64 t] w fun e w' => e = .returned (.tuple #[.int .i64 (cmpI (p.1 * t) (p.2 * q)),.bool true])∧Gr w w':=by
 obtain ⟨h1,h2,h3,h4⟩:=hp;have m1:=mul_bd h1 h2 (show 0≤t by omega) ht';have m2:=mul_bd (show 0≤p.2 by omega) h4 hq hq';exact against_yes p.1 p.2 q t w ⟨h1,by omega⟩ ⟨by omega,by omega⟩ (by omega) hq hq' ht ht' ⟨m1.1,by omega⟩ ⟨m2.1,by omega⟩
set_option maxHeartbeats 800000 in
theorem within_leg (p:Int × Int) (s:Srv) (w:World) (hp:Shr p) (hs:s.leg = true) :
 Calls Tryz.prog 235 #[partV p,.agg #[.int .i64 s.k,.int .i64 s.q,.int .i64 s.t]] w fun e w' => e = .returned (.tuple #[.int .i64 (cmpI (p.1 * s.t) (p.2 * s.q)),.bool true])∧Gr w w':=by
 obtain ⟨h1,h2,h3,h4,h5⟩:=(Srv.leg_iff _).1 hs;replace hs:=Lib.hid hs;go_enter Tryz.func235,Tryz.ntmps235;go_wp2_with fail;refine (checkServer_yes s.k s.q s.t _ hs.out).mono ?_;rintro e wa ⟨rfl,ga⟩;obtain ⟨ca,fa,sa⟩:=ga.cells;try simp only [size_drewN] at ca fa sa
 try simp only [World.size_alloc] at ca fa sa
 try simp only [World.size_drew] at ca fa sa
 try simp only [World.size_setCell] at ca fa sa
 have za0:w.heap.size < wa.heap.size:=by omega
 have ya0:w.heap.size≤wa.heap.size:=by omega
 have ka0:=fun o => ca (w.heap.size) o (by omega)
 have ja0:=fun o => fa (w.heap.size) o (by omega)
 have za1:w.heap.size + 1 < wa.heap.size:=by omega
 have ka1:=fun o => ca (w.heap.size + 1) o (by omega)
 have ja1:=fun o => fa (w.heap.size + 1) o (by omega)
 go_wp2_with fail;refine (against_shr p s.q s.t _ hp (by omega) (by omega) (by omega) (by omega)).mono ?_;rintro e wb ⟨rfl,gb⟩;obtain ⟨cb,fb,sb⟩:=gb.cells;try simp only [size_drewN] at cb fb sb
 try simp only [World.size_alloc] at cb fb sb
 try simp only [World.size_drew] at cb fb sb
 try simp only [World.size_setCell] at cb fb sb
 have zb0:w.heap.size < wb.heap.size:=by omega
 have yb0:w.heap.size≤wb.heap.size:=by omega
 have kb0:=fun o => cb (w.heap.size) o (by omega)
 have jb0:=fun o => fb (w.heap.size) o (by omega)
 have zb1:w.heap.size + 1 < wb.heap.size:=by omega
 have kb1:=fun o => cb (w.heap.size + 1) o (by omega)
 have jb1:=fun o => fb (w.heap.size + 1) o (by omega)
 go_wp2_with fail;go_ret2;refine ⟨rfl,?_⟩;repeat (first | exact Gr.refl _ | apply Gr.alloc | apply Gr.drew | apply Gr.drewN | (refine Gr.setCell ?_ (by simp) _) | (refine Gr.trans ?_ (by assumption)))
set_option maxHeartbeats 800000 in
theorem within_whole (p:Int × Int) (w:World) (hp:Shr p) :
 Calls Tryz.prog 235 #[partV p,.agg #[.int .i64 0,.int .i64 0,.int .i64 0]] w fun e w' => e = .returned (.tuple #[.int .i64 (cmpI p.1 p.2),.bool true])∧Gr w w':=by
 have hx:=fun w => against_shr p 1 1 w hp (by decide) (by decide) (by decide) (by decide)
 rw [Int.mul_one,Int.mul_one] at hx;replace hx:=Lib.hid hx;go_enter Tryz.func235,Tryz.ntmps235;go_wp2_with fail;refine (hx.out _).mono ?_;rintro e wb ⟨rfl,gb⟩;obtain ⟨cb,fb,sb⟩:=gb.cells;try simp only [size_drewN] at cb fb sb
 try simp only [World.size_alloc] at cb fb sb
 try simp only [World.size_drew] at cb fb sb
 try simp only [World.size_setCell] at cb fb sb
 have zb0:w.heap.size < wb.heap.size:=by omega
 have yb0:w.heap.size≤wb.heap.size:=by omega
 have kb0:=fun o => cb (w.heap.size) o (by omega)
 have jb0:=fun o => fb (w.heap.size) o (by omega)
 have zb1:w.heap.size + 1 < wb.heap.size:=by omega
 have kb1:=fun o => cb (w.heap.size + 1) o (by omega)
 have jb1:=fun o => fb (w.heap.size + 1) o (by omega)
 go_wp2_with fail;go_ret2;refine ⟨rfl,?_⟩;repeat (first | exact Gr.refl _ | apply Gr.alloc | apply Gr.drew | apply Gr.drewN | (refine Gr.setCell ?_ (by simp) _) | (refine Gr.trans ?_ (by assumption)))
end Go.Proofs.YtdfelohjdkcpkaaGreatDoor
namespace Go.Proofs.YtdfelohjdkcpkaaGreatDoor
open Go.RowKit
theorem BigP.mono {x:Int} {n m n' m':Nat} {w:World} {e:Ending} {w':World} (h:BigP x n m w e w') (hn:n'≤n) (hm:m≤m'):BigP x n' m' w e w':=by
 obtain ⟨ds,a,c,h1,h2,h3,h4,h5,h6⟩:=h;exact ⟨ds,a,c,h1,h2,h3,Nat.le_trans hn h4,Nat.le_trans h5 hm,h6⟩
theorem btimes4 (a:Option Addr) (b:Nat) (da:List Int) (ca:Nat) (x n:Int) (w:World) (ha:BigAt w a da) (hb:BB w b n) (ga:Dig da) (hx:valD da = x) (l1:8≤da.length) (l2:da.length≤8) (h0:0≤n) (h1:n < 18446744073709551616) :
 Calls Tryz.prog 181 #[.slice a da.length ca,.slice (some ⟨b,0,none⟩) 4 4] w (BigP (x * n) 12 13 w):=by
 have h:=btimes_any a (some ⟨b,0,none⟩) da (digs4 n) ca 4 w ha hb.big ga (digs4_dig h0 h1) (by omega) (by simp [digs4]) (by simp [digs4]);rw [hx,digs4_val,show (digs4 n).length = 4 from rfl] at h;exact h.mono fun _ _ h => h.mono (by omega) (by omega)
theorem bplus14 (a b:Option Addr) (da db:List Int) (ca cb:Nat) (x y:Int) (w:World) (ha:BigAt w a da) (hb:BigAt w b db) (ga:Dig da) (gb:Dig db) (hx:valD da = x) (hy:valD db = y) (l1:12≤da.length) (l2:da.length≤13) (l3:db.length≤13) :
 Calls Tryz.prog 183 #[.slice a da.length ca,.slice b db.length cb] w (BigP (x + y) 12 14 w):=by
 have h:=bplus_any a b da db ca cb w ha hb ga gb (by omega) (by omega);rw [hx,hy] at h;exact h.mono fun _ _ h => h.mono (by omega) (by omega)
set_option maxHeartbeats 1600000 in
theorem rmul_any (a n:Int) (w:World) (ha:Wide a) (hn:Word n) (hp:Wide (a * n)) :
 Calls Tryz.prog 252 #[.agg #[.int .u64 (hiW a),.int .u64 (loW a)],.int .u64 n] w fun e w' => e = .returned (.tuple #[.agg #[.int .u64 (hiW (a * n)),.int .u64 (loW (a * n))],.bool true])∧Gr w w':=by
 obtain ⟨n1,n2⟩:=hn;go_enter Tryz.func252,Tryz.ntmps252;go_wp2_with fail;refine (rof_any a _ ha).mono ?_;rintro e wa ⟨lda,aa,caa,rfl,va,da,la,ma,ra,nna,cpa,ga⟩;obtain ⟨ca,fa,sa⟩:=ga.cells;try simp only [size_drewN] at ca fa sa
 try simp only [World.size_alloc] at ca fa sa
 try simp only [World.size_drew] at ca fa sa
 try simp only [World.size_setCell] at ca fa sa
 replace va:=Lib.hid va;have za0:w.heap.size < wa.heap.size:=by omega
 have ya0:w.heap.size≤wa.heap.size:=by omega
 have ka0:=fun o => ca (w.heap.size) o (by omega)
 have ja0:=fun o => fa (w.heap.size) o (by omega)
 have za1:w.heap.size + 1 < wa.heap.size:=by omega
 have ka1:=fun o => ca (w.heap.size + 1) o (by omega)
 have ja1:=fun o => fa (w.heap.size + 1) o (by omega)
 go_wp2_with fail;refine (bof_ex n _ n1 n2).mono ?_;rintro e wb ⟨bb,rfl,llb,hbb,gb⟩;obtain ⟨cb,fb,sb⟩:=gb.cells;try simp only [size_drewN] at cb fb sb
 try simp only [World.size_alloc] at cb fb sb
 try simp only [World.size_drew] at cb fb sb
 try simp only [World.size_setCell] at cb fb sb
 have zb0:w.heap.size < wb.heap.size:=by omega
 have yb0:w.heap.size≤wb.heap.size:=by omega
 have kb0:=fun o => cb (w.heap.size) o (by omega)
 have jb0:=fun o => fb (w.heap.size) o (by omega)
 have zb1:w.heap.size + 1 < wb.heap.size:=by omega
 have kb1:=fun o => cb (w.heap.size + 1) o (by omega)
 have jb1:=fun o => fb (w.heap.size + 1) o (by omega)
 go_wp2_with fail;refine (btimes4 aa bb lda caa a n _ (ra.gr gb) hbb da va.out la ma n1 n2).mono ?_;rintro e wc ⟨ldc,ac,cac,rfl,vc,dc,lc,mc,rc,nnc,cpc,gc⟩;obtain ⟨cc,fc,sc⟩:=gc.cells;try simp only [size_drewN] at cc fc sc
 try simp only [World.size_alloc] at cc fc sc
 try simp only [World.size_drew] at cc fc sc
 try simp only [World.size_setCell] at cc fc sc
 replace vc:=Lib.hid vc;have zc0:w.heap.size < wc.heap.size:=by omega
 have yc0:w.heap.size≤wc.heap.size:=by omega
 have kc0:=fun o => cc (w.heap.size) o (by omega)
 have jc0:=fun o => fc (w.heap.size) o (by omega)
 have zc1:w.heap.size + 1 < wc.heap.size:=by omega
 have kc1:=fun o => cc (w.heap.size + 1) o (by omega)
 have jc1:=fun o => fc (w.heap.size + 1) o (by omega)
 go_wp2_with fail;refine (rback_any ac ldc cac (a * n) _ rc dc (by omega) (by omega) cpc vc.out hp).mono ?_;rintro e wd ⟨rfl,gd⟩;obtain ⟨cd,fd,sd⟩:=gd.cells;try simp only [size_drewN] at cd fd sd
 try simp only [World.size_alloc] at cd fd sd
 try simp only [World.size_drew] at cd fd sd
 try simp only [World.size_setCell] at cd fd sd
 have zd0:w.heap.size < wd.heap.size:=by omega
 have yd0:w.heap.size≤wd.heap.size:=by omega
 have kd0:=fun o => cd (w.heap.size) o (by omega)
 have jd0:=fun o => fd (w.heap.size) o (by omega)
 have zd1:w.heap.size + 1 < wd.heap.size:=by omega
 have kd1:=fun o => cd (w.heap.size + 1) o (by omega)
 have jd1:=fun o => fd (w.heap.size + 1) o (by omega)
 go_wp2_with fail;refine bodyPost_ret (v:=.tuple #[.agg #[.int .u64 (hiW (a * n)),.int .u64 (loW (a * n))],.bool true]) (by simp (maxDischargeDepth:=8) [results,Tryz.results252,go_sem, *]) rfl ⟨rfl,?_⟩;repeat (first | exact Gr.refl _ | apply Gr.alloc | apply Gr.drew | apply Gr.drewN | (refine Gr.setCell ?_ (by simp) _) | (refine Gr.trans ?_ (by assumption)))
set_option maxHeartbeats 400000 in
theorem rlegal2_any (n d q t:Int) (w:World) (hd:Wide d) (h0:0 < d) (hq:0≤q) (ht:1≤t) :
 Calls Tryz.prog 250 #[.agg #[.int .u64 (hiW n),.int .u64 (loW n),.int .u64 (hiW d),.int .u64 (loW d)],.int .i64 q,.int .i64 t] w fun e w' => e = .returned (.bool true)∧Gr w w':=by
 obtain ⟨hn1,hn2,hn3⟩:=wide_ne d hd h0;go_enter Tryz.func250,Tryz.ntmps250;go_wp2;all_goals (go_ret;exact ⟨rfl,(Gr.refl _).alloc _⟩)
set_option maxRecDepth 100000 in
set_option maxHeartbeats 3200000 in
theorem rplus_any (n d q t:Int) (w:World) (hn:Wide n) (hd:Wide d) (h0:0 < d) (hq:0≤q) (hq':q≤4294967296) (ht:1≤t) (ht':t≤4294967296) (h1:Wide (n * t + d * q)) (h2:Wide (d * t)) :
 Calls Tryz.prog 218 #[.agg #[.int .u64 (hiW n),.int .u64 (loW n),.int .u64 (hiW d),.int .u64 (loW d)],.int .i64 q,.int .i64 t] w fun e w' => e = .returned (.tuple #[.agg #[.int .u64 (hiW (n * t + d * q)),.int .u64 (loW (n * t + d * q)),.int .u64 (hiW (d * t)),.int .u64 (loW (d * t))],.bool true])∧Gr w w':=by
 have wt:Word t:=⟨by omega,by omega⟩
 have t0:0≤t:=by omega
 have t1:t < 18446744073709551616:=by omega
 have q1:q < 18446744073709551616:=by omega
 go_enter Tryz.func218,Tryz.ntmps218;go_wp2_with fail;refine (rlegal2_any n d q t _ hd h0 hq ht).mono ?_;rintro e wz ⟨rfl,gz⟩;obtain ⟨cz,fz,sz⟩:=gz.cells;try simp only [size_drewN] at cz fz sz
 try simp only [World.size_alloc] at cz fz sz
 try simp only [World.size_drew] at cz fz sz
 try simp only [World.size_setCell] at cz fz sz
 have zz0:w.heap.size < wz.heap.size:=by omega
 have yz0:w.heap.size≤wz.heap.size:=by omega
 have kz0:=fun o => cz (w.heap.size) o (by omega)
 have jz0:=fun o => fz (w.heap.size) o (by omega)
 have zz1:w.heap.size + 1 < wz.heap.size:=by omega
 have kz1:=fun o => cz (w.heap.size + 1) o (by omega)
 have jz1:=fun o => fz (w.heap.size + 1) o (by omega)
 have ewt:IntKind.u64.wrap t = t:=by rw [IntKind.wrap_u64];omega
 have ewq:IntKind.u64.wrap q = q:=by rw [IntKind.wrap_u64];omega
 go_wp2_with fail;go_region_held3 (fun w' => w'.cell? ⟨w.heap.size,0,none⟩ = some (.int .u64 (hiW n))∧w'.cell? ⟨w.heap.size,1,none⟩ = some (.int .u64 (loW n))∧w'.cell? ⟨w.heap.size,2,none⟩ = some (.int .u64 (hiW d))∧w'.cell? ⟨w.heap.size,3,none⟩ = some (.int .u64 (loW d))) (simp (maxDischargeDepth:=8) [go_sem, *])
  (first
   | (go_at_call 179;(with_reducible refine (rof_any n _ hn).mono ?_);rintro e wa ⟨lda,aa,caa,rfl,va,da,la,ma,ra,nna,cpa,ga⟩;obtain ⟨ka,ja,sa⟩:=ga.cells;(try simp only [World.size_drew] at ka ja sa);have kka:=fun o => ka w.heap.size o (by omega))
   | (go_at_call 219;(with_reducible refine (bof_ex t _ t0 t1).mono ?_);rintro e wb ⟨bb,rfl,llb,hbb,gb⟩;obtain ⟨kb,jb,sb⟩:=gb.cells;have kkb:=fun o => kb w.heap.size o (by omega))
   | (go_at_call 181;(with_reducible refine (btimes4 aa bb lda caa n t _ (ra.gr gb) hbb da va la ma t0 t1).mono ?_);rintro e wc ⟨ldc,ac,cac,rfl,vc,dc,lc,mc,rc,nnc,cpc,gc⟩;obtain ⟨kc,jc,sc⟩:=gc.cells;have kkc:=fun o => kc w.heap.size o (by omega))
   | (go_at_call 179;(with_reducible refine (rof_any d _ hd).mono ?_);rintro e we ⟨lde,ae,cae,rfl,ve,de,le,me,re,nne,cpe,ge⟩;obtain ⟨ke,je,se⟩:=ge.cells;have kke:=fun o => ke w.heap.size o (by omega))
   | (go_at_call 219;(with_reducible refine (bof_ex q _ hq q1).mono ?_);rintro e wf ⟨bf,rfl,llf,hbf,gf⟩;obtain ⟨kf,jf,sf⟩:=gf.cells;have kkf:=fun o => kf w.heap.size o (by omega))
   | (go_at_call 181;(with_reducible refine (btimes4 ae bf lde cae d q _ (re.gr gf) hbf de ve le me hq q1).mono ?_);rintro e wg ⟨ldg,ag,cag,rfl,vg,dg,lg,mg,rg,nng,cpg,gg⟩;obtain ⟨kg,jg,sg⟩:=gg.cells;have kkg:=fun o => kg w.heap.size o (by omega))
   | (go_at_call 183;(with_reducible refine (bplus14 ac ag ldc ldg cac cag (n * t) (d * q) _ (((rc.gr ge).gr gf).gr gg) rg dc dg vc vg lc mc mg).mono ?_);rintro e wh ⟨ldh,ah,cah,rfl,vh,dh,lh,mh,rh,nnh,cph,gh⟩;obtain ⟨kh,jh,sh⟩:=gh.cells;have kkh:=fun o => kh w.heap.size o (by omega))
   | fail)
 clear ewt ewq;have zz0:w.heap.size + 1 < wh.heap.size:=by omega
 have h18:Wide (n * t + d * q):=h1;replace h18:=Lib.hid h18;have bk:=fun w h => rback_any ah ldh cah (n * t + d * q) w h dh (by omega) (by omega) cph vh h18.out
 replace bk:=Lib.hid bk;have km:=fun w => rmul_any d t w hd wt h2
 replace km:=Lib.hid km;have gz2:=(((((((gz.drew).trans ga).trans gb).trans gc).trans ge).trans gf).trans gg).trans gh;obtain ⟨cz2,fz2,sz2⟩:=gz2.cells;simp only [World.size_alloc] at cz2 fz2 sz2;have kz2:=fun o => cz2 w.heap.size o (by omega)
 have kz3:=fun o => cz2 (w.heap.size + 1) o (by omega)
 have jz3:=fun o => fz2 (w.heap.size + 1) o (by omega)
 clear ga gb gc ge gf gg gh gz ka kb kc ke kf kg kh ja jb jc je jf jg jh kka kkb kkc kke kkf kkg kkh cz fz kz0 kz1 jz0 jz1 cz2 fz2 hbb hbf ra re rc rg va vc ve vg nna nnc nne nng cpa cpc cpe cpg nnh;go_wp2_with fail;refine (bk.out _ rh).mono ?_;rintro e wi ⟨rfl,gi⟩;obtain ⟨ci,fi,si⟩:=gi.cells;try simp only [size_drewN] at ci fi si
 try simp only [World.size_alloc] at ci fi si
 try simp only [World.size_drew] at ci fi si
 try simp only [World.size_setCell] at ci fi si
 have zi0:w.heap.size < wi.heap.size:=by omega
 have yi0:w.heap.size≤wi.heap.size:=by omega
 have ki0:=fun o => ci (w.heap.size) o (by omega)
 have ji0:=fun o => fi (w.heap.size) o (by omega)
 have zi1:w.heap.size + 1 < wi.heap.size:=by omega
 have ki1:=fun o => ci (w.heap.size + 1) o (by omega)
 have ji1:=fun o => fi (w.heap.size + 1) o (by omega)
 go_wp2_with fail;refine (km.out _).mono ?_;rintro e wj ⟨rfl,gj⟩;obtain ⟨cj,fj,sj⟩:=gj.cells;try simp only [size_drewN] at cj fj sj
 try simp only [World.size_alloc] at cj fj sj
 try simp only [World.size_drew] at cj fj sj
 try simp only [World.size_setCell] at cj fj sj
 have zj0:w.heap.size < wj.heap.size:=by omega
 have yj0:w.heap.size≤wj.heap.size:=by omega
 have kj0:=fun o => cj (w.heap.size) o (by omega)
 have jj0:=fun o => fj (w.heap.size) o (by omega)
 have zj1:w.heap.size + 1 < wj.heap.size:=by omega
 have kj1:=fun o => cj (w.heap.size + 1) o (by omega)
 have jj1:=fun o => fj (w.heap.size + 1) o (by omega)
 have zj2:wi.heap.size < wj.heap.size:=by omega
 have yj2:wi.heap.size≤wj.heap.size:=by omega
 have kj2:=fun o => cj (wi.heap.size) o (by omega)
 have jj2:=fun o => fj (wi.heap.size) o (by omega)
 go_wp2_with fail;refine bodyPost_ret (v:=.tuple #[.agg #[.int .u64 (hiW (n * t + d * q)),.int .u64 (loW (n * t + d * q)),.int .u64 (hiW (d * t)),.int .u64 (loW (d * t))],.bool true]) (by simp (maxDischargeDepth:=8) [results,Tryz.results218,go_sem, *]) rfl ⟨rfl,?_⟩;have gw2:Gr w wh:=(((Gr.refl w).alloc _).alloc _).trans gz2;repeat (first | exact Gr.refl _ | apply Gr.alloc | apply Gr.drew | apply Gr.drewN | (refine Gr.setCell ?_ (by simp) _) | (refine Gr.trans ?_ (by assumption)))
end Go.Proofs.YtdfelohjdkcpkaaGreatDoor
namespace Go.Proofs.YtdfelohjdkcpkaaGreatDoor
open Go.RowKit
def allLegT (l:List Tsk):Bool:=l.all Tsk.leg
theorem allLegT_snoc (l:List Tsk) (s:Tsk):allLegT (l ++ [s]) = (allLegT l && s.leg):=by simp [allLegT]
theorem allLegT_get {l:List Tsk} (h:allLegT l = true) {i:Nat} {s:Tsk} (hi:l[i]? = some s):s.leg = true:=List.all_eq_true.1 h _ (get_mem hi)
def guestOk (p:Int) (l:List Tsk):Bool:=decide (p = 1 ∨ p = 2) && decide (1≤l.length∧l.length≤8) && allLegT l
set_option maxHeartbeats 400000 in
theorem legalTask_any (s:Tsk) (w:World) :
 Calls Tryz.prog 244 #[.agg #[.int .i64 s.c,.int .i64 s.p,.int .i64 s.d,.int .i64 s.s]] w fun e w' => e = .returned (.bool s.leg)∧Gr w w':=by
 cases h:s.leg
 ·have h:¬ (1≤s.c∧s.c≤s.d∧s.d≤s.p∧s.p≤256∧0≤s.s∧s.s≤s.c):=fun x => by rw [(Tsk.leg_iff _).2 x] at h;cases h
  go_enter Tryz.func244,Tryz.ntmps244;go_wp2;all_goals (go_ret;first | exact ⟨rfl,(Gr.refl _).alloc _⟩ | skip)
  all_goals (exact ⟨retb (by simp;omega),(Gr.refl _).alloc _⟩)
 ·obtain ⟨h1,h2,h3,h4,h5,h6⟩:=(Tsk.leg_iff _).1 h;go_enter Tryz.func244,Tryz.ntmps244;go_wp2;go_ret;exact ⟨rfl,(Gr.refl _).alloc _⟩
set_option maxHeartbeats 400000 in
theorem rlegal_any (s:Srv) (w:World) :
 Calls Tryz.prog 51 #[.agg #[.int .i64 s.k,.int .i64 s.q,.int .i64 s.t]] w fun e w' => e = .returned (.bool s.leg)∧Gr w w':=by
 cases h:s.leg
 ·have h:¬ (1≤s.k∧s.k≤3∧1≤s.q∧s.q≤s.t∧s.t≤256):=fun x => by rw [(Srv.leg_iff _).2 x] at h;cases h
  go_enter Tryz.func51,Tryz.ntmps51;go_wp2;all_goals (go_ret;first | exact ⟨rfl,(Gr.refl _).alloc _⟩ | skip)
  all_goals (exact ⟨retb (by simp;omega),(Gr.refl _).alloc _⟩)
 ·obtain ⟨h1,h2,h3,h4,h5⟩:=(Srv.leg_iff _).1 h;go_enter Tryz.func51,Tryz.ntmps51;go_wp2;all_goals (go_ret;exact ⟨retb (by first | rfl | (simp;done) | (simp;omega)),(Gr.refl _).alloc _⟩)
set_option maxHeartbeats 400000 in
theorem rlegalTask_any (s:Tsk) (w:World) :
 Calls Tryz.prog 98 #[.agg #[.int .i64 s.c,.int .i64 s.p,.int .i64 s.d,.int .i64 s.s]] w fun e w' => e = .returned (.bool s.leg)∧Gr w w':=by
 cases h:s.leg
 ·have h:¬ (1≤s.c∧s.c≤s.d∧s.d≤s.p∧s.p≤256∧0≤s.s∧s.s≤s.c):=fun x => by rw [(Tsk.leg_iff _).2 x] at h;cases h
  go_enter Tryz.func98,Tryz.ntmps98;go_wp2;all_goals (go_ret;first | exact ⟨rfl,(Gr.refl _).alloc _⟩ | skip)
  all_goals (exact ⟨retb (by simp;omega),(Gr.refl _).alloc _⟩)
 ·obtain ⟨h1,h2,h3,h4,h5,h6⟩:=(Tsk.leg_iff _).1 h;go_enter Tryz.func98,Tryz.ntmps98;go_wp2;go_ret;exact ⟨rfl,(Gr.refl _).alloc _⟩
def tasksOk (l:List Tsk):Bool:=allLegT l && decide (l.length≤8)
set_option maxHeartbeats 800000 in
theorem checkTasks_no {G:List Nat} {E:Nat→Addr} (a:Option Addr) (l:List Tsk) (c:Nat) (w:World) (hE:EAt G E w) (i0:10 ∈ G) (hl:TsksAt w a l) (hm:l.length≤maxLen) (h:tasksOk l = false) :
 Calls Tryz.prog 210 #[.slice a l.length c] w fun e w' => e = .returned (Value.iface 384 (.pointer (some (E 10))))∧Gr w w':=by
 unfold maxLen at hm;have h:=Lib.hid h;go_enter Tryz.func210,Tryz.ntmps210;go_wp2_with fail;go_loopw [7] (fun i wr => ∃ k:Nat,k≤l.length∧allLegT (l.take k) = true∧i = .int .i64 k∧Gr w wr) (fun i _ => l.length - (intOf i).toNat);case atStart => exact ⟨0,Nat.zero_le _,rfl,rfl,Gr.refl _⟩
 case round =>
  obtain ⟨k,hk,hal,rfl,hg⟩:=hrel;have hal:=Lib.hid hal;by_cases hlt:k < l.length
  ·obtain ⟨s,hs⟩:=get_some l k hlt;obtain ⟨b,off,rfl,hb,h0,h1,h2,h3⟩:=(hl.gr hg) k s hs;cases hleg:s.leg
   ·have hc:=legalTask_any s;rw [hleg] at hc;have hc:=Lib.hid hc;have hleg:=Lib.hid hleg;go_wp2_with fail;refine (hc.out _).mono ?_;rintro e wa ⟨rfl,ga⟩;obtain ⟨ca,fa,sa⟩:=ga.cells;try simp only [size_drewN] at ca fa sa
    try simp only [World.size_alloc] at ca fa sa
    try simp only [World.size_drew] at ca fa sa
    try simp only [World.size_setCell] at ca fa sa
    have e1:=((hE.gr hg).gr ((Gr.refl _).alloc (.cells #[.int .i64 s.c,.int .i64 s.p,.int .i64 s.d,.int .i64 s.s] 41))).gr ga;have e2:=e1.c0 i0;go_wp2_with fail;go_ret;exact ⟨rfl,(hg.alloc _).trans ga⟩
   ·have hc:=legalTask_any s;rw [hleg] at hc;have hc:=Lib.hid hc;have hleg:=Lib.hid hleg;go_wp2_with fail;refine (hc.out _).mono ?_;rintro e wa ⟨rfl,ga⟩;obtain ⟨ca,fa,sa⟩:=ga.cells;try simp only [size_drewN] at ca fa sa
    try simp only [World.size_alloc] at ca fa sa
    try simp only [World.size_drew] at ca fa sa
    try simp only [World.size_setCell] at ca fa sa
    go_wp2_with fail;go_roundw;case rel => exact ⟨k + 1,by omega,by rw [take_snoc hs,allLegT_snoc,hal.out,hleg.out];rfl,by go_num,(hg.alloc _).trans ga⟩
    case measure => simp [intOf];omega
  ·have e2:=(hE.gr hg).c0 i0;have h8:8 < l.length:=by
    have h1:l.take k = l:=List.take_of_length_le (by omega);have h2:=hal.out;have h3:=h.out;rw [h1] at h2;unfold tasksOk at h3;rw [h2] at h3;simpa using h3
   go_wp2_with fail;go_ret;exact ⟨rfl,hg⟩
set_option maxHeartbeats 800000 in
theorem checkTasks_yes (a:Option Addr) (l:List Tsk) (c:Nat) (w:World) (hl:TsksAt w a l) (h:tasksOk l = true) :
 Calls Tryz.prog 210 #[.slice a l.length c] w fun e w' => e = .returned .nilIface∧Gr w w':=by
 simp only [tasksOk,Bool.and_eq_true,decide_eq_true_eq] at h;obtain ⟨hal,h8⟩:=h;have hal:=Lib.hid hal;go_enter Tryz.func210,Tryz.ntmps210;go_wp2_with fail;go_loopw [7] (fun i wr => ∃ k:Nat,k≤l.length∧i = .int .i64 k∧Gr w wr) (fun i _ => l.length - (intOf i).toNat);case atStart => exact ⟨0,Nat.zero_le _,rfl,Gr.refl _⟩
 case round =>
  obtain ⟨k,hk,rfl,hg⟩:=hrel;by_cases hlt:k < l.length
  ·obtain ⟨s,hs⟩:=get_some l k hlt;obtain ⟨b,off,rfl,hb,h0,h1,h2,h3⟩:=(hl.gr hg) k s hs;have hc:=legalTask_any s;rw [allLegT_get hal.out hs] at hc;have hc:=Lib.hid hc;go_wp2_with fail;refine (hc.out _).mono ?_;rintro e wa ⟨rfl,ga⟩;obtain ⟨ca,fa,sa⟩:=ga.cells;try simp only [size_drewN] at ca fa sa
   try simp only [World.size_alloc] at ca fa sa
   try simp only [World.size_drew] at ca fa sa
   try simp only [World.size_setCell] at ca fa sa
   go_wp2_with fail;go_roundw;case rel => exact ⟨k + 1,by omega,by go_num,(hg.alloc _).trans ga⟩
   case measure => simp [intOf];omega
  ·go_wp2_with fail;go_ret;exact ⟨rfl,hg⟩
theorem guestOk_iff (p:Int) (l:List Tsk):guestOk p l = true ↔ (p = 1 ∨ p = 2)∧1≤l.length∧tasksOk l = true:=by
 unfold guestOk tasksOk;simp only [Bool.and_eq_true,decide_eq_true_eq];exact ⟨fun ⟨⟨a,b,c⟩,d⟩ => ⟨a,b,d,c⟩,fun ⟨a,b,d,c⟩ => ⟨⟨a,b,c⟩,d⟩⟩
set_option maxHeartbeats 800000 in
theorem checkGuest_yes (p:Int) (a:Option Addr) (l:List Tsk) (c:Nat) (w:World) (hl:TsksAt w a l) (h:guestOk p l = true) :
 Calls Tryz.prog 169 #[.int .i64 p,.slice a l.length c] w fun e w' => e = .returned .nilIface∧Gr w w':=by
 obtain ⟨hp,h1,h2⟩:=(guestOk_iff p l).1 h;have h2:=Lib.hid h2;clear h;have n1:((l.length:Int) == 0) = false:=by simp;intro hh;rw [hh] at h1;simp at h1
 rcases hp with rfl | rfl
 all_goals
  go_enter Tryz.func169,Tryz.ntmps169;go_wp2_with fail;refine (checkTasks_yes a l c _ hl h2.out).mono ?_;rintro e wa ⟨rfl,ga⟩;obtain ⟨ca,fa,sa⟩:=ga.cells;try simp only [size_drewN] at ca fa sa
  try simp only [World.size_alloc] at ca fa sa
  try simp only [World.size_drew] at ca fa sa
  try simp only [World.size_setCell] at ca fa sa
  go_wp2_with fail;go_ret;exact ⟨rfl,ga⟩
set_option maxHeartbeats 800000 in
theorem checkGuest_no {G:List Nat} {E:Nat→Addr} (p:Int) (a:Option Addr) (l:List Tsk) (c:Nat) (w:World) (hE:EAt G E w) (i0:10 ∈ G) (hl:TsksAt w a l) (hm:l.length≤maxLen) (h:guestOk p l = false) :
 Calls Tryz.prog 169 #[.int .i64 p,.slice a l.length c] w fun e w' => e = .returned (Value.iface 384 (.pointer (some (E 10))))∧Gr w w':=by
 have e2:=hE.c0 i0;by_cases hp:p = 1 ∨ p = 2
 ·by_cases h1:l.length = 0
  ·have n1:((l.length:Int) == 0) = true:=by simp;exact List.length_eq_zero_iff.1 h1
   have h1:=Lib.hid h1;rcases hp with rfl | rfl
   all_goals
    go_enter Tryz.func169,Tryz.ntmps169;go_wp2_with fail;go_ret;exact ⟨rfl,Gr.refl _⟩
  ·have n1:((l.length:Int) == 0) = false:=by simp;intro hh;rw [hh] at h1;simp at h1
   have h2:tasksOk l = false:=by
    cases hh:tasksOk l
    ·rfl
    ·rw [(guestOk_iff p l).2 ⟨hp,by omega,hh⟩] at h;cases h
   have h2:=Lib.hid h2;clear h;rcases hp with rfl | rfl
   all_goals
    go_enter Tryz.func169,Tryz.ntmps169;go_wp2_with fail;refine (checkTasks_no a l c _ hE i0 hl hm h2.out).mono ?_;rintro e wa ⟨rfl,ga⟩;obtain ⟨ca,fa,sa⟩:=ga.cells;try simp only [size_drewN] at ca fa sa
    try simp only [World.size_alloc] at ca fa sa
    try simp only [World.size_drew] at ca fa sa
    try simp only [World.size_setCell] at ca fa sa
    go_wp2_with fail;go_ret;exact ⟨rfl,ga⟩
 ·have q1:(p != 1) = true:=by simp;omega
  have q2:(p != 2) = true:=by simp;omega
  clear hp h;go_enter Tryz.func169,Tryz.ntmps169;go_wp2_with fail;go_ret;exact ⟨rfl,Gr.refl _⟩
set_option maxHeartbeats 800000 in
theorem rlegalGuest_no (p:Int) (a:Option Addr) (l:List Tsk) (c:Nat) (w:World) (hl:TsksAt w a l) (hm:l.length≤maxLen) (h:¬ ((p = 1 ∨ p = 2)∧1≤l.length∧l.length≤8)) :
 Calls Tryz.prog 52 #[.int .i64 p,.slice a l.length c] w fun e w' => e = .returned (.bool false)∧Gr w w':=by
 unfold maxLen at hm;have hcase:(¬ p = 1∧¬ p = 2) ∨ p = 1∧(l.length = 0 ∨ 8 < l.length) ∨ p = 2∧(l.length = 0 ∨ 8 < l.length):=by omega
 clear h;have hz:l.length = 0 ∨ 8 < l.length→(1≤(l.length:Int)→8 < (l.length:Int)):=by omega
 rcases hcase with ⟨h1,h2⟩ | ⟨rfl,hq⟩ | ⟨rfl,hq⟩
 ·have q1:(p == 1) = false:=by simpa using h1
  have q2:(p == 2) = false:=by simpa using h2
  clear h1 h2 hz;go_enter Tryz.func52,Tryz.ntmps52;go_wp2_with fail;go_loopw [26,5] (fun i v wr => ∃ k:Nat,k≤l.length∧i = .int .i64 k∧v = .bool false∧Gr w wr) (fun i _ _ => l.length - (intOf i).toNat);case atStart => exact ⟨0,Nat.zero_le _,rfl,rfl,Gr.refl _⟩
  case round =>
   obtain ⟨k,hk,rfl,rfl,hg⟩:=hrel;by_cases hlt:k < l.length
   ·obtain ⟨s,hs⟩:=get_some l k hlt;obtain ⟨b,off,rfl,hb,h0,h1,h2,h3⟩:=(hl.gr hg) k s hs;go_wp2_with fail;go_roundw;case rel => exact ⟨k + 1,by omega,by go_num,rfl,hg.alloc _⟩
    case measure => simp [intOf];omega
   ·go_wp2_with fail;go_ret;exact ⟨rfl,hg⟩
 all_goals
  have hz:=Lib.hid (hz hq);rcases hq with hq | hq
  ·obtain rfl:l = []:=List.length_eq_zero_iff.1 hq;clear hq;go_enter Tryz.func52,Tryz.ntmps52;go_wp2_with fail;refine wp_loop_rounds 1 ?_;rw [rounds_succ];go_wp2_with fail;go_ret;exact ⟨rfl,Gr.refl _⟩
  ·have d1:decide (1≤(l.length:Int)) = true:=by simp;omega
   have d8:decide ((l.length:Int)≤8) = false:=by simp;omega
   go_enter Tryz.func52,Tryz.ntmps52;go_wp2_with fail;go_loopw [26,5] (fun i v wr => ∃ k:Nat,k≤l.length∧i = .int .i64 k∧v = .bool false∧Gr w wr) (fun i _ _ => l.length - (intOf i).toNat);case atStart => exact ⟨0,Nat.zero_le _,rfl,rfl,Gr.refl _⟩
   case round =>
    obtain ⟨k,hk,rfl,rfl,hg⟩:=hrel;by_cases hlt:k < l.length
    ·obtain ⟨s,hs⟩:=get_some l k hlt;obtain ⟨b,off,rfl,hb,h0,h1,h2,h3⟩:=(hl.gr hg) k s hs;go_wp2_with fail;go_roundw;case rel => exact ⟨k + 1,by omega,by go_num,rfl,hg.alloc _⟩
     case measure => simp [intOf];omega
    ·go_wp2_with fail;go_ret;exact ⟨rfl,hg⟩
set_option maxHeartbeats 800000 in
theorem rlegalGuest_yes (p:Int) (a:Option Addr) (l:List Tsk) (c:Nat) (w:World) (hl:TsksAt w a l) (hp:p = 1 ∨ p = 2) (h1:1≤l.length) (h8:l.length≤8) :
 Calls Tryz.prog 52 #[.int .i64 p,.slice a l.length c] w fun e w' => e = .returned (.bool (allLegT l))∧Gr w w':=by
 have d1:decide (1≤(l.length:Int)) = true:=by simp;omega
 have d8:decide ((l.length:Int)≤8) = true:=by simp;omega
 rcases hp with rfl | rfl
 all_goals
  go_enter Tryz.func52,Tryz.ntmps52;go_wp2_with fail;go_loopw [26,5] (fun i v wr => ∃ k:Nat,k≤l.length∧i = .int .i64 k∧v = .bool (allLegT (l.take k))∧Gr w wr) (fun i _ _ => l.length - (intOf i).toNat);case atStart => exact ⟨0,Nat.zero_le _,rfl,rfl,Gr.refl _⟩
  case round =>
   obtain ⟨k,hk,rfl,rfl,hg⟩:=hrel;by_cases hlt:k < l.length
   ·obtain ⟨s,hs⟩:=get_some l k hlt;obtain ⟨b,off,rfl,hb,h0,h1,h2,h3⟩:=(hl.gr hg) k s hs;have hsn:allLegT (l.take (k + 1)) = (allLegT (l.take k) && s.leg):=by rw [take_snoc hs,allLegT_snoc]
    have hsn:=Lib.hid hsn;cases hq:allLegT (l.take k)
    ·rw [hq] at hsn;have hq:=Lib.hid hq;go_wp2_with fail;go_roundw;case rel => exact ⟨k + 1,by omega,by go_num,by rw [hsn.out];rfl,hg.alloc _⟩
     case measure => simp [intOf];omega
    ·rw [hq] at hsn;have hq:=Lib.hid hq;go_wp2_with fail;refine (rlegalTask_any s _).mono ?_;rintro e wa ⟨rfl,ga⟩;obtain ⟨ca,fa,sa⟩:=ga.cells;try simp only [size_drewN] at ca fa sa
     try simp only [World.size_alloc] at ca fa sa
     try simp only [World.size_drew] at ca fa sa
     try simp only [World.size_setCell] at ca fa sa
     go_wp2_with fail;go_roundw;case rel => exact ⟨k + 1,by omega,by go_num,by rw [hsn.out];rfl,(hg.alloc _).trans ga⟩
     case measure => simp [intOf];omega
   ·have hall:l.take k = l:=List.take_of_length_le (by omega);rw [hall];go_wp2_with fail;go_ret;exact ⟨rfl,hg⟩
theorem rlegalGuest_any (p:Int) (a:Option Addr) (l:List Tsk) (c:Nat) (w:World) (hl:TsksAt w a l) (hm:l.length≤maxLen) :
 Calls Tryz.prog 52 #[.int .i64 p,.slice a l.length c] w fun e w' => e = .returned (.bool (guestOk p l))∧Gr w w':=by
 by_cases h:(p = 1 ∨ p = 2)∧1≤l.length∧l.length≤8
 ·have e:guestOk p l = allLegT l:=by
   unfold guestOk;rw [decide_eq_true h.1,decide_eq_true h.2];rfl
  rw [e];exact rlegalGuest_yes p a l c w hl h.1 h.2.1 h.2.2
 ·have e:guestOk p l = false:=by
   cases hh:guestOk p l
   ·rfl
   ·obtain ⟨x,y,z⟩:=(guestOk_iff p l).1 hh;unfold tasksOk at z;simp only [Bool.and_eq_true,decide_eq_true_eq] at z;exact absurd ⟨x,y,z.2⟩ h
  rw [e];exact rlegalGuest_no p a l c w hl hm h
end Go.Proofs.YtdfelohjdkcpkaaGreatDoor
namespace Go.Proofs.YtdfelohjdkcpkaaGreatDoor
open Go.RowKit
set_option maxHeartbeats 800000 in
theorem rshare_any (n d q t:Int) (w:World) (hn:Wide n) (hd:Wide d) (h0:0 < d) (hq:0≤q) (hq':q≤4294967296) (ht:1≤t) (ht':t≤4294967296) (h1:Wide (n * t + d * q)) (h2:Wide (d * t)) :
 Calls Tryz.prog 177 #[.agg #[.int .u64 (hiW n),.int .u64 (loW n),.int .u64 (hiW d),.int .u64 (loW d)],.int .i64 q,.int .i64 t] w fun e w' => e = .returned (.agg #[.int .u64 (hiW (n * t + d * q)),.int .u64 (loW (n * t + d * q)),.int .u64 (hiW (d * t)),.int .u64 (loW (d * t))])∧Gr w w':=by
 go_enter Tryz.func177,Tryz.ntmps177;go_wp2_with fail;refine (rplus_any n d q t _ hn hd h0 hq hq' ht ht' h1 h2).mono ?_;rintro e wa ⟨rfl,ga⟩;obtain ⟨ca,fa,sa⟩:=ga.cells;try simp only [size_drewN] at ca fa sa
 try simp only [World.size_alloc] at ca fa sa
 try simp only [World.size_drew] at ca fa sa
 try simp only [World.size_setCell] at ca fa sa
 have za0:w.heap.size < wa.heap.size:=by omega
 have ya0:w.heap.size≤wa.heap.size:=by omega
 have ka0:=fun o => ca (w.heap.size) o (by omega)
 have ja0:=fun o => fa (w.heap.size) o (by omega)
 have za1:w.heap.size + 1 < wa.heap.size:=by omega
 have ka1:=fun o => ca (w.heap.size + 1) o (by omega)
 have ja1:=fun o => fa (w.heap.size + 1) o (by omega)
 go_wp2_with fail;refine bodyPost_ret (v:=.agg #[.int .u64 (hiW (n * t + d * q)),.int .u64 (loW (n * t + d * q)),.int .u64 (hiW (d * t)),.int .u64 (loW (d * t))]) (by simp (maxDischargeDepth:=8) [results,Tryz.results177,go_sem, *]) rfl ⟨rfl,?_⟩;repeat (first | exact Gr.refl _ | apply Gr.alloc | apply Gr.drew | apply Gr.drewN | (refine Gr.setCell ?_ (by simp) _) | (refine Gr.trans ?_ (by assumption)))
end Go.Proofs.YtdfelohjdkcpkaaGreatDoor
namespace Go.Proofs.YtdfelohjdkcpkaaGreatDoor
open Go.RowKit
def shareT (l:List Tsk):Int × Int:=l.foldl (fun p s => plusP p s.c s.p) (0,1)
theorem shareT_snoc (l:List Tsk) (s:Tsk):shareT (l ++ [s]) = plusP (shareT l) s.c s.p:=by
 unfold shareT;rw [List.foldl_append];rfl
theorem shareT_bd (l:List Tsk) (h:allLegT l = true) (i:Nat) (hi:i≤l.length) :
 0≤(shareT (l.take i)).1∧(shareT (l.take i)).1≤i * P256 i∧1≤(shareT (l.take i)).2∧(shareT (l.take i)).2≤P256 i:=by
 induction i with
 | zero => rw [List.take_zero];exact ⟨by decide,by decide,by decide,by decide⟩
 | succ i ih =>
  obtain ⟨s,hs⟩:=get_some l i (by omega);have hl:=(Tsk.leg_iff _).1 (allLegT_get h hs);rw [take_snoc hs,shareT_snoc];have:=plusP_bd (ih (by omega)) ⟨hl.1,Int.le_trans hl.2.1 hl.2.2.1,hl.2.2.2.1⟩;exact ⟨this.1,this.2.1,this.2.2.1,this.2.2.2.1⟩
set_option maxHeartbeats 800000 in
theorem tasks_no {G:List Nat} {E:Nat→Addr} (a:Option Addr) (l:List Tsk) (c:Nat) (w:World) (hE:EAt G E w) (i1:10 ∈ G) (hl:TsksAt w a l) (hm:l.length≤maxLen) (h:tasksOk l = false) :
 Calls Tryz.prog 212 #[.slice a l.length c] w fun e w' => e = .returned (.tuple #[partZ,(Value.iface 384 (.pointer (some (E 10))))])∧Gr w w':=by
 replace h:=Lib.hid h;go_enter Tryz.func212,Tryz.ntmps212;go_wp2_with fail;refine (checkTasks_no a l c _ (hE.gr ((Gr.refl w).alloc _)) i1 (hl.gr ((Gr.refl w).alloc _)) hm h.out).mono ?_;rintro e wa ⟨rfl,ga⟩;obtain ⟨ca,fa,sa⟩:=ga.cells;try simp only [size_drewN] at ca fa sa
 try simp only [World.size_alloc] at ca fa sa
 try simp only [World.size_drew] at ca fa sa
 try simp only [World.size_setCell] at ca fa sa
 have za0:w.heap.size < wa.heap.size:=by omega
 have ya0:w.heap.size≤wa.heap.size:=by omega
 have ka0:=fun o => ca (w.heap.size) o (by omega)
 have ja0:=fun o => fa (w.heap.size) o (by omega)
 go_wp2_with fail;refine bodyPost_ret (v:=.tuple #[partZ,(Value.iface 384 (.pointer (some (E 10))))]) (by simp (maxDischargeDepth:=8) [results,Tryz.results212,go_sem, *]) rfl ⟨rfl,?_⟩;repeat (first | exact Gr.refl _ | apply Gr.alloc | apply Gr.drew | apply Gr.drewN | (refine Gr.setCell ?_ (by simp) _) | (refine Gr.trans ?_ (by assumption)))
set_option maxHeartbeats 1600000 in
theorem tasks_yes (a:Option Addr) (l:List Tsk) (c:Nat) (w:World) (hl:TsksAt w a l) (hok:tasksOk l = true) :
 Calls Tryz.prog 212 #[.slice a l.length c] w fun e w' => e = .returned (.tuple #[partV (shareT l),.nilIface])∧Gr w w':=by
 have hok':=hok;simp only [tasksOk,Bool.and_eq_true,decide_eq_true_eq] at hok';obtain ⟨h,h8⟩:=hok';replace hok:=Lib.hid hok;go_enter Tryz.func212,Tryz.ntmps212;go_wp2_with fail;refine (checkTasks_yes a l c _ (hl.gr ((Gr.refl w).alloc _)) hok.out).mono ?_;rintro e wa ⟨rfl,ga⟩;obtain ⟨ca,fa,sa⟩:=ga.cells;try simp only [size_drewN] at ca fa sa
 try simp only [World.size_alloc] at ca fa sa
 try simp only [World.size_drew] at ca fa sa
 try simp only [World.size_setCell] at ca fa sa
 have za0:w.heap.size < wa.heap.size:=by omega
 have ya0:w.heap.size≤wa.heap.size:=by omega
 have ka0:=fun o => ca (w.heap.size) o (by omega)
 have ja0:=fun o => fa (w.heap.size) o (by omega)
 go_wp2_with fail;refine (nothing_any _).mono ?_;rintro e wb ⟨rfl,gb⟩;obtain ⟨cb,fb,sb⟩:=gb.cells;try simp only [size_drewN] at cb fb sb
 try simp only [World.size_alloc] at cb fb sb
 try simp only [World.size_drew] at cb fb sb
 try simp only [World.size_setCell] at cb fb sb
 have zb0:w.heap.size < wb.heap.size:=by omega
 have yb0:w.heap.size≤wb.heap.size:=by omega
 have kb0:=fun o => cb (w.heap.size) o (by omega)
 have jb0:=fun o => fb (w.heap.size) o (by omega)
 go_wp2_with fail;have gb0:Gr w wb:=(((Gr.refl w).alloc _).trans ga).trans gb;go_loopw [17] (fun i wx => ∃ j:Nat,j≤l.length∧i = .int .i64 j∧Gr wb wx∧wb.heap.size < wx.heap.size∧(∀ o,wx.frozen? ⟨wb.heap.size,o,none⟩ = false)∧wx.cell? ⟨wb.heap.size,0,none⟩ = some (.int .u64 (hiW (shareT (l.take j)).1))∧wx.cell? ⟨wb.heap.size,1,none⟩ = some (.int .u64 (loW (shareT (l.take j)).1))∧wx.cell? ⟨wb.heap.size,2,none⟩ = some (.int .u64 (hiW (shareT (l.take j)).2))∧wx.cell? ⟨wb.heap.size,3,none⟩ = some (.int .u64 (loW (shareT (l.take j)).2))) (fun i _ => l.length - (intOf i).toNat);case atStart => exact ⟨0,Nat.zero_le _,rfl,(Gr.refl _).alloc _,by simp,by simp [go_sem],by simp [go_sem];rfl,by simp [go_sem];rfl,by simp [go_sem];rfl,by simp [go_sem];rfl⟩
 case round =>
  obtain ⟨j,hj,rfl,gx,zx,fx,x0,x1,x2,x3⟩:=hrel;have hgx:Gr w wr:=gb0.trans gx;obtain ⟨cx,fx',_⟩:=gx.cells;have zx0:w.heap.size < wr.heap.size:=by omega
  have bd:=shareT_bd l h j hj;by_cases hlt2:j < l.length
  ·obtain ⟨s,hs⟩:=get_some l j hlt2;obtain ⟨b,off,rfl,hb,h0,h1,h2,h3⟩:=(hl.gr hgx) j s hs;have hleg:=(Tsk.leg_iff _).1 (allLegT_get h hs);obtain ⟨s1,s2,s3,s4,s5,s6,s7,s8,s9⟩:=share_step (by omega) bd ⟨hleg.1,Int.le_trans hleg.2.1 hleg.2.2.1,hleg.2.2.2.1⟩;have hsn:shareT (l.take (j + 1)) = plusP (shareT (l.take j)) s.c s.p:=by rw [take_snoc hs,shareT_snoc]
   have hsn:=Lib.hid hsn;generalize shareT (l.take j) = p at *;obtain ⟨n,d⟩:=p;dsimp only at s1 s2 s3 s4 s5 s6 s7 s8 s9 x0 x1 x2 x3;clear bd;go_wp2_with fail;refine (plus_any n d s.c s.p _ s1 s2 s3 s4 s5 s6 s7 s8 s9).mono ?_;rintro e wp ⟨rfl,gp⟩;obtain ⟨cp,fp,sp⟩:=gp.cells;try simp only [size_drewN] at cp fp sp
   try simp only [World.size_alloc] at cp fp sp
   try simp only [World.size_drew] at cp fp sp
   try simp only [World.size_setCell] at cp fp sp
   have zp0:w.heap.size < wp.heap.size:=by omega
   have yp0:w.heap.size≤wp.heap.size:=by omega
   have kp0:=fun o => cp (w.heap.size) o (by omega)
   have jp0:=fun o => fp (w.heap.size) o (by omega)
   have zp1:wb.heap.size < wp.heap.size:=by omega
   have yp1:wb.heap.size≤wp.heap.size:=by omega
   have kp1:=fun o => cp (wb.heap.size) o (by omega)
   have jp1:=fun o => fp (wb.heap.size) o (by omega)
   go_wp2_with fail;go_roundw;case rel =>
    refine ⟨j + 1,by omega,by go_num,?_,by simp;omega,fun o => by simp [go_sem, *],?_,?_,?_,?_⟩
    ·have:=(gx.alloc (.cells #[.int .i64 s.c,.int .i64 s.p,.int .i64 s.d,.int .i64 s.s] 41)).trans gp;repeat (first | exact this | (refine Gr.setCell ?_ (by simp) _))
    all_goals (rw [hsn.out];simp (maxDischargeDepth:=8) [go_sem,plusP, *])
   case measure => simp [intOf];omega
  ·have hj':j = l.length:=by omega
   subst hj';rw [List.take_length] at x0 x1 x2 x3;go_wp2_with fail;refine bodyPost_ret (v:=.tuple #[partV (shareT l),.nilIface]) (by simp (maxDischargeDepth:=8) [results,Tryz.results212,go_sem, *]) rfl ⟨rfl,?_⟩;repeat (first | exact Gr.refl _ | apply Gr.alloc | apply Gr.drew | apply Gr.drewN | (refine Gr.setCell ?_ (by simp) _) | (refine Gr.trans ?_ (by assumption)))
end Go.Proofs.YtdfelohjdkcpkaaGreatDoor
namespace Go.Proofs.YtdfelohjdkcpkaaGreatDoor
open Go.RowKit
abbrev z4:Obj:=.cells #[.int .u64 0,.int .u64 0,.int .u64 0,.int .u64 0] 195
abbrev z1:Obj:=.cells #[.int .u64 0,.int .u64 0,.int .u64 0,.int .u64 1] 195
set_option maxHeartbeats 1600000 in
theorem rservers_no (a:Option Addr) (l:List Srv) (c:Nat) (w:World) (hl:SrvsAt w a l) (hm:l.length≤maxLen) (h:allLeg l = false) :
 Calls Tryz.prog 171 #[.slice a l.length c] w fun e w' => e = .returned (.tuple #[partZ,.int .i64 10])∧Gr w w':=by
 unfold maxLen at hm;replace h:=Lib.hid h;go_enter Tryz.func171,Tryz.ntmps171;go_wp2_with fail;go_loopw [13] (fun i wr => ∃ k:Nat,k≤l.length∧allLeg (l.take k) = true∧i = .int .i64 k∧Gr ((w.alloc z4).alloc z1) wr) (fun i _ => l.length - (intOf i).toNat);case atStart => exact ⟨0,Nat.zero_le _,rfl,rfl,Gr.refl _⟩
 case round =>
  obtain ⟨k,hk,hal,rfl,hg⟩:=hrel;replace hal:=Lib.hid hal;have hgw:Gr w wr:=(((Gr.refl _).alloc _).alloc _).trans hg;have zw:w.heap.size + 1 < wr.heap.size:=by have:=hg.size;simp at this;omega
  have zw0:w.heap.size < wr.heap.size:=by omega
  obtain ⟨cw,fw,_⟩:=hg.cells;simp only [World.size_alloc] at cw fw;by_cases hlt:k < l.length
  ·obtain ⟨s,hs⟩:=get_some l k hlt;obtain ⟨b,off,rfl,hb,h0,h1,h2⟩:=(hl.gr hgw) k s hs;have hc:=rlegal_any s;cases hleg:s.leg
   ·rw [hleg] at hc;replace hc:=Lib.hid hc;replace hleg:=Lib.hid hleg;go_wp2_with fail;refine (hc.out _).mono ?_;rintro e wa ⟨rfl,ga⟩;obtain ⟨ca,fa,sa⟩:=ga.cells;try simp only [size_drewN] at ca fa sa
    try simp only [World.size_alloc] at ca fa sa
    try simp only [World.size_drew] at ca fa sa
    try simp only [World.size_setCell] at ca fa sa
    have za0:w.heap.size < wa.heap.size:=by omega
    have ya0:w.heap.size≤wa.heap.size:=by omega
    have ka0:=fun o => ca (w.heap.size) o (by omega)
    have ja0:=fun o => fa (w.heap.size) o (by omega)
    go_wp2_with fail;refine bodyPost_ret (v:=.tuple #[partZ,.int .i64 10]) (by simp (maxDischargeDepth:=8) [results,Tryz.results171,go_sem, *]) rfl ⟨rfl,?_⟩;repeat (first | exact Gr.refl _ | apply Gr.alloc | apply Gr.drew | apply Gr.drewN | (refine Gr.setCell ?_ (by simp) _) | (refine Gr.trans ?_ (by assumption)))
   ·rw [hleg] at hc;replace hc:=Lib.hid hc;replace hleg:=Lib.hid hleg;go_wp2_with fail;refine (hc.out _).mono ?_;rintro e wa ⟨rfl,ga⟩;obtain ⟨ca,fa,sa⟩:=ga.cells;try simp only [size_drewN] at ca fa sa
    try simp only [World.size_alloc] at ca fa sa
    try simp only [World.size_drew] at ca fa sa
    try simp only [World.size_setCell] at ca fa sa
    have za0:w.heap.size < wa.heap.size:=by omega
    have ya0:w.heap.size≤wa.heap.size:=by omega
    have ka0:=fun o => ca (w.heap.size) o (by omega)
    have ja0:=fun o => fa (w.heap.size) o (by omega)
    go_wp2_with fail;go_roundw;case rel => exact ⟨k + 1,by omega,by rw [take_snoc hs,allLeg_snoc,hal.out,hleg.out];rfl,by go_num,(hg.alloc _).trans ga⟩
    case measure => simp [intOf];omega
  ·have h1:=hal.out;have h2:=h.out;have:l.take k = l:=List.take_of_length_le (by omega);rw [this,h2] at h1;cases h1
set_option maxHeartbeats 1600000 in
theorem rservers_full (a:Option Addr) (l:List Srv) (c:Nat) (w:World) (hl:SrvsAt w a l) (hm:l.length≤maxLen) (h:allLeg l = true) (h8:8 < l.length) :
 Calls Tryz.prog 171 #[.slice a l.length c] w fun e w' => e = .returned (.tuple #[partZ,.int .i64 7])∧Gr w w':=by
 unfold maxLen at hm;replace h:=Lib.hid h;go_enter Tryz.func171,Tryz.ntmps171;go_wp2_with fail;go_loopw [13] (fun i wr => ∃ k:Nat,k≤l.length∧i = .int .i64 k∧Gr ((w.alloc z4).alloc z1) wr) (fun i _ => l.length - (intOf i).toNat);case atStart => exact ⟨0,Nat.zero_le _,rfl,Gr.refl _⟩
 case round =>
  obtain ⟨k,hk,rfl,hg⟩:=hrel;have hgw:Gr w wr:=(((Gr.refl _).alloc _).alloc _).trans hg;have zw:w.heap.size + 1 < wr.heap.size:=by have:=hg.size;simp at this;omega
  have zw0:w.heap.size < wr.heap.size:=by omega
  obtain ⟨cw,fw,_⟩:=hg.cells;simp only [World.size_alloc] at cw fw;by_cases hlt:k < l.length
  ·obtain ⟨s,hs⟩:=get_some l k hlt;obtain ⟨b,off,rfl,hb,h0,h1,h2⟩:=(hl.gr hgw) k s hs;have hc:=rlegal_any s;rw [allLeg_get h.out hs] at hc;replace hc:=Lib.hid hc;go_wp2_with fail;refine (hc.out _).mono ?_;rintro e wa ⟨rfl,ga⟩;obtain ⟨ca,fa,sa⟩:=ga.cells;try simp only [size_drewN] at ca fa sa
   try simp only [World.size_alloc] at ca fa sa
   try simp only [World.size_drew] at ca fa sa
   try simp only [World.size_setCell] at ca fa sa
   have za0:w.heap.size < wa.heap.size:=by omega
   have ya0:w.heap.size≤wa.heap.size:=by omega
   have ka0:=fun o => ca (w.heap.size) o (by omega)
   have ja0:=fun o => fa (w.heap.size) o (by omega)
   go_wp2_with fail;go_roundw;case rel => exact ⟨k + 1,by omega,by go_num,(hg.alloc _).trans ga⟩
   case measure => simp [intOf];omega
  ·go_wp2_with fail;refine bodyPost_ret (v:=.tuple #[partZ,.int .i64 7]) (by simp (maxDischargeDepth:=8) [results,Tryz.results171,go_sem, *]) rfl ⟨rfl,?_⟩;repeat (first | exact Gr.refl _ | apply Gr.alloc | apply Gr.drew | apply Gr.drewN | (refine Gr.setCell ?_ (by simp) _) | (refine Gr.trans ?_ (by assumption)))
set_option maxHeartbeats 1600000 in
theorem rservers_yes (a:Option Addr) (l:List Srv) (c:Nat) (w:World) (hl:SrvsAt w a l) (h:allLeg l = true) (h8:l.length≤8) :
 Calls Tryz.prog 171 #[.slice a l.length c] w fun e w' => e = .returned (.tuple #[partV (shareS l),.int .i64 0])∧Gr w w':=by
 go_enter Tryz.func171,Tryz.ntmps171;go_wp2_with fail;go_loopw [13] (fun i wr => ∃ k:Nat,k≤l.length∧i = .int .i64 k∧Gr ((w.alloc z4).alloc z1) wr) (fun i _ => l.length - (intOf i).toNat);case atStart => exact ⟨0,Nat.zero_le _,rfl,Gr.refl _⟩
 case round =>
  obtain ⟨k,hk,rfl,hg⟩:=hrel;have hgw:Gr w wr:=(((Gr.refl _).alloc _).alloc _).trans hg;have zw:w.heap.size + 1 < wr.heap.size:=by have:=hg.size;simp at this;omega
  have zw0:w.heap.size < wr.heap.size:=by omega
  obtain ⟨cw,fw,_⟩:=hg.cells;simp only [World.size_alloc] at cw fw;by_cases hlt:k < l.length
  ·obtain ⟨s,hs⟩:=get_some l k hlt;obtain ⟨b,off,rfl,hb,h0,h1,h2⟩:=(hl.gr hgw) k s hs;have hc:=rlegal_any s;rw [allLeg_get h hs] at hc;replace hc:=Lib.hid hc;go_wp2_with fail;refine (hc.out _).mono ?_;rintro e wa ⟨rfl,ga⟩;obtain ⟨ca,fa,sa⟩:=ga.cells;try simp only [size_drewN] at ca fa sa
   try simp only [World.size_alloc] at ca fa sa
   try simp only [World.size_drew] at ca fa sa
   try simp only [World.size_setCell] at ca fa sa
   have za0:w.heap.size < wa.heap.size:=by omega
   have ya0:w.heap.size≤wa.heap.size:=by omega
   have ka0:=fun o => ca (w.heap.size) o (by omega)
   have ja0:=fun o => fa (w.heap.size) o (by omega)
   go_wp2_with fail;go_roundw;case rel => exact ⟨k + 1,by omega,by go_num,(hg.alloc _).trans ga⟩
   case measure => simp [intOf];omega
  ·go_wp2_with fail;obtain ⟨wo,rfl⟩:∃ wo:World,wo = wr:=⟨_,rfl⟩
   have q0:wo.cell? ⟨w.heap.size,0,none⟩ = some (.int .u64 0):=by simp [go_sem, *]
   have q1:wo.cell? ⟨w.heap.size,1,none⟩ = some (.int .u64 0):=by simp [go_sem, *]
   have q2:wo.cell? ⟨w.heap.size,2,none⟩ = some (.int .u64 0):=by simp [go_sem, *]
   have q3:wo.cell? ⟨w.heap.size,3,none⟩ = some (.int .u64 0):=by simp [go_sem, *]
   have qf:∀ o,wo.frozen? ⟨w.heap.size,o,none⟩ = false:=fun o => by simp [go_sem, *]
   have p0:wo.cell? ⟨w.heap.size + 1,0,none⟩ = some (.int .u64 (hiW (shareS (l.take 0)).1)):=by simp [go_sem, *];rfl
   have p1:wo.cell? ⟨w.heap.size + 1,1,none⟩ = some (.int .u64 (loW (shareS (l.take 0)).1)):=by simp [go_sem, *];rfl
   have p2:wo.cell? ⟨w.heap.size + 1,2,none⟩ = some (.int .u64 (hiW (shareS (l.take 0)).2)):=by simp [go_sem, *];rfl
   have p3:wo.cell? ⟨w.heap.size + 1,3,none⟩ = some (.int .u64 (loW (shareS (l.take 0)).2)):=by simp [go_sem, *];rfl
   have pf:∀ o,wo.frozen? ⟨w.heap.size + 1,o,none⟩ = false:=fun o => by simp [go_sem, *]
   clear cw fw hg;go_loopw [28] (fun i wx => ∃ j:Nat,j≤l.length∧i = .int .i64 j∧Gr w wx∧w.heap.size + 1 < wx.heap.size∧(∀ o,wx.frozen? ⟨w.heap.size,o,none⟩ = false)∧wx.cell? ⟨w.heap.size,0,none⟩ = some (.int .u64 0)∧wx.cell? ⟨w.heap.size,1,none⟩ = some (.int .u64 0)∧wx.cell? ⟨w.heap.size,2,none⟩ = some (.int .u64 0)∧wx.cell? ⟨w.heap.size,3,none⟩ = some (.int .u64 0)∧(∀ o,wx.frozen? ⟨w.heap.size + 1,o,none⟩ = false)∧wx.cell? ⟨w.heap.size + 1,0,none⟩ = some (.int .u64 (hiW (shareS (l.take j)).1))∧wx.cell? ⟨w.heap.size + 1,1,none⟩ = some (.int .u64 (loW (shareS (l.take j)).1))∧wx.cell? ⟨w.heap.size + 1,2,none⟩ = some (.int .u64 (hiW (shareS (l.take j)).2))∧wx.cell? ⟨w.heap.size + 1,3,none⟩ = some (.int .u64 (loW (shareS (l.take j)).2))) (fun i _ => l.length - (intOf i).toNat);case atStart => exact ⟨0,Nat.zero_le _,rfl,hgw,zw,qf,q0,q1,q2,q3,pf,p0,p1,p2,p3⟩
   case round =>
    clear q0 q1 q2 q3 qf p0 p1 p2 p3 pf hgw zw zw0;obtain ⟨j,hj,rfl,gx,zx,qf,q0,q1,q2,q3,fx,x0,x1,x2,x3⟩:=hrel;have zx0:w.heap.size < wr.heap.size:=by omega
    have bd:=shareS_bd l h j hj;by_cases hlt2:j < l.length
    ·obtain ⟨s,hs⟩:=get_some l j hlt2;obtain ⟨b,off,rfl,hb,h0,h1,h2⟩:=(hl.gr gx) j s hs;have hleg:=(Srv.leg_iff _).1 (allLeg_get h hs);obtain ⟨s1,s2,s3,s4,s5,s6,s7,s8,s9⟩:=share_step (by omega) bd ⟨hleg.2.2.1,hleg.2.2.2.1,hleg.2.2.2.2⟩;have hsn:shareS (l.take (j + 1)) = plusP (shareS (l.take j)) s.q s.t:=by rw [take_snoc hs,shareS_snoc]
     replace hsn:=Lib.hid hsn;generalize shareS (l.take j) = p at *;obtain ⟨n,d⟩:=p;dsimp only at s1 s2 s3 s4 s5 s6 s7 s8 s9 x0 x1 x2 x3;clear bd;go_wp2_with fail;refine (rshare_any n d s.q s.t _ s1 s2 s3 s4 s5 s6 s7 s8 s9).mono ?_;rintro e wp ⟨rfl,gp⟩;obtain ⟨cp,fp,sp⟩:=gp.cells;try simp only [size_drewN] at cp fp sp
     try simp only [World.size_alloc] at cp fp sp
     try simp only [World.size_drew] at cp fp sp
     try simp only [World.size_setCell] at cp fp sp
     have zp0:w.heap.size < wp.heap.size:=by omega
     have yp0:w.heap.size≤wp.heap.size:=by omega
     have kp0:=fun o => cp (w.heap.size) o (by omega)
     have jp0:=fun o => fp (w.heap.size) o (by omega)
     have zp1:w.heap.size + 1 < wp.heap.size:=by omega
     have kp1:=fun o => cp (w.heap.size + 1) o (by omega)
     have jp1:=fun o => fp (w.heap.size + 1) o (by omega)
     go_wp2_with fail;go_roundw;case rel =>
      refine ⟨j + 1,by omega,by go_num,?_,by simp;omega,fun o => by simp [go_sem, *],?_,?_,?_,?_,fun o => by simp [go_sem, *],?_,?_,?_,?_⟩
      focus
       repeat (first | exact Gr.refl _ | apply Gr.alloc | apply Gr.drew | apply Gr.drewN | (refine Gr.setCell ?_ (by simp) _) | (refine Gr.trans ?_ (by assumption)))
      all_goals (first | (simp (maxDischargeDepth:=8) [go_sem, *];done) | (rw [hsn.out];simp (maxDischargeDepth:=8) [go_sem,plusP, *]))
     case measure => simp [intOf];omega
    ·have hj':j = l.length:=by omega
     subst hj';rw [List.take_length] at x0 x1 x2 x3;go_wp2_with fail;refine bodyPost_ret (v:=.tuple #[partV (shareS l),.int .i64 0]) (by simp (maxDischargeDepth:=8) [results,Tryz.results171,go_sem, *]) rfl ⟨rfl,?_⟩;repeat (first | exact Gr.refl _ | apply Gr.alloc | apply Gr.drew | apply Gr.drewN | (refine Gr.setCell ?_ (by simp) _) | (refine Gr.trans ?_ (by assumption)))
end Go.Proofs.YtdfelohjdkcpkaaGreatDoor
