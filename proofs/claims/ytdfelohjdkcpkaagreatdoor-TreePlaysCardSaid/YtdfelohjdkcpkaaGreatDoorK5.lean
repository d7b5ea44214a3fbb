/- almonerref08: Tasks; what plan and the reference tell of servers and tasks, each in one contract. -/
import Derived.Test.YtdfelohjdkcpkaaGreatDoorK4
import Derived.Test.YtdfelohjdkcpkaaGreatDoorK1
import Derived.Test.YtdfelohjdkcpkaaGreatDoorK2
import Derived.Lib.SliceRun
namespace Go.Proofs.YtdfelohjdkcpkaaGreatDoor
open Go.RowKit
def srvErr (l:List Srv):Option Nat:=if allLeg l = false then some 9 else if 8 < l.length then some 6 else none
def tskErr (l:List Tsk):Option Nat:=if tasksOk l = false then some 10 else none
def numO:Option Nat→Int
 | none => 0
 | some g => numI g
def errV (E:Nat→Addr):Option Nat→Value
 | none => .nilIface
 | some g => errAt E g
def pw (o:Option Nat) (p:Int × Int) (i:Nat):Int :=
 match o with
 | some _ => 0
 | none => match i with
  | 0 => hiW p.1
  | 1 => loW p.1
  | 2 => hiW p.2
  | _ => loW p.2
abbrev pv (o:Option Nat) (p:Int × Int):Value:=.agg #[.int .u64 (pw o p 0),.int .u64 (pw o p 1),.int .u64 (pw o p 2),.int .u64 (pw o p 3)]
theorem plan_servers {G:List Nat} {E:Nat→Addr} (a:Option Addr) (l:List Srv) (c:Nat) (w:World) (hE:EAt G E w) (hG:∀ x ∈ errNos,x ∈ G) (hl:SrvsAt w a l) (hm:l.length≤maxLen) :
 Calls Tryz.prog 200 #[.slice a l.length c] w fun e w' => e = .returned (.tuple #[pv (srvErr l) (shareS l),errV E (srvErr l)])∧Gr w w':=by
 unfold srvErr;split
 ·rename_i h;exact servers_no a l c w hE (hG _ (by decide)) hl hm h
 ·rename_i h;have h:allLeg l = true:=by simpa using h
  split
  ·rename_i h8;exact servers_full a l c w hE (hG _ (by decide)) hl hm h h8
  ·rename_i h8;exact servers_yes a l c w hl h (by omega)
theorem tskErr_bad {l:List Tsk} (h:allLegT l = false ∨ 8 < l.length):tskErr l = some 10:=by
 unfold tskErr tasksOk;rw [if_pos];rcases h with h | h
 ·rw [h];rfl
 ·rw [decide_eq_false (by omega),Bool.and_false]
theorem tskErr_good {l:List Tsk} (h:allLegT l = true) (h8:l.length≤8):tskErr l = none:=by
 unfold tskErr tasksOk;rw [if_neg];rw [h,decide_eq_true h8];decide
theorem allLegT_not {l:List Tsk} {i:Nat} {s:Tsk} (hi:l[i]? = some s) (h:s.leg = false):allLegT l = false:=by
 cases hh:allLegT l
 ·rfl
 ·rw [allLegT_get hh hi] at h;cases h
theorem shareT_bd' (l:List Tsk) (i:Nat) (hi:i≤l.length) (h:allLegT (l.take i) = true) :
 0≤(shareT (l.take i)).1∧(shareT (l.take i)).1≤i * P256 i∧1≤(shareT (l.take i)).2∧(shareT (l.take i)).2≤P256 i:=by
 have:=shareT_bd (l.take i) h i (by rw [List.length_take];omega)
 rwa [List.take_take,Nat.min_self] at this
set_option maxRecDepth 100000 in
set_option maxHeartbeats 3200000 in
theorem ref_tasks (a:Option Addr) (l:List Tsk) (c:Nat) (w:World) (hl:TsksAt w a l) (hm:l.length≤maxLen) :
 Calls Tryz.prog 105 #[.slice a l.length c] w fun e w' => e = .returned (.tuple #[pv (tskErr l) (shareT l),.int .i64 (numO (tskErr l))])∧Gr w w':=by
 unfold maxLen at hm;go_enter Tryz.func105,Tryz.ntmps105;go_wp2_with fail;go_loopw [11] (fun i wx => ∃ j:Nat,j≤l.length∧(j = 0 ∨ l.length≤8)∧allLegT (l.take j) = true∧i = .int .i64 j∧Gr w wx∧w.heap.size + 1 < wx.heap.size∧(∀ o,wx.frozen? ⟨w.heap.size,o,none⟩ = false)∧wx.cell? ⟨w.heap.size,0,none⟩ = some (.int .u64 0)∧wx.cell? ⟨w.heap.size,1,none⟩ = some (.int .u64 0)∧wx.cell? ⟨w.heap.size,2,none⟩ = some (.int .u64 0)∧wx.cell? ⟨w.heap.size,3,none⟩ = some (.int .u64 0)∧(∀ o,wx.frozen? ⟨w.heap.size + 1,o,none⟩ = false)∧wx.cell? ⟨w.heap.size + 1,0,none⟩ = some (.int .u64 (hiW (shareT (l.take j)).1))∧wx.cell? ⟨w.heap.size + 1,1,none⟩ = some (.int .u64 (loW (shareT (l.take j)).1))∧wx.cell? ⟨w.heap.size + 1,2,none⟩ = some (.int .u64 (hiW (shareT (l.take j)).2))∧wx.cell? ⟨w.heap.size + 1,3,none⟩ = some (.int .u64 (loW (shareT (l.take j)).2))) (fun i _ => l.length - (intOf i).toNat);case atStart => exact ⟨0,Nat.zero_le _,.inl rfl,rfl,rfl,((Gr.refl _).alloc _).alloc _,by simp,fun o => by simp [go_sem],by simp [go_sem],by simp [go_sem],by simp [go_sem],by simp [go_sem],fun o => by simp [go_sem],by simp [go_sem];rfl,by simp [go_sem];rfl,by simp [go_sem];rfl,by simp [go_sem];rfl⟩
 case round =>
  obtain ⟨j,hj,hj8,hal,rfl,gx,zx,qf,q0,q1,q2,q3,fx,x0,x1,x2,x3⟩:=hrel;have zx0:w.heap.size < wr.heap.size:=by omega
  have bd:=shareT_bd' l j hj hal;replace hal:=Lib.hid hal;by_cases hlt2:j < l.length
  ·obtain ⟨s,hs⟩:=get_some l j hlt2;obtain ⟨b,off,rfl,hb,h0,h1,h2,h3⟩:=(hl.gr gx) j s hs;have hc:=rlegalTask_any s;by_cases h8:8 < l.length
   ·have ht:=tskErr_bad (.inr h8);replace ht:=Lib.hid ht;clear bd hj8;cases hleg:s.leg
    all_goals
     rw [hleg] at hc;replace hc:=Lib.hid hc;replace hleg:=Lib.hid hleg;go_wp2_with fail;refine (hc.out _).mono ?_;rintro e wa ⟨rfl,ga⟩;obtain ⟨ca,fa,sa⟩:=ga.cells;try simp only [size_drewN] at ca fa sa
     try simp only [World.size_alloc] at ca fa sa
     try simp only [World.size_drew] at ca fa sa
     try simp only [World.size_setCell] at ca fa sa
     have za0:w.heap.size < wa.heap.size:=by omega
     have ya0:w.heap.size≤wa.heap.size:=by omega
     have ka0:=fun o => ca (w.heap.size) o (by omega)
     have ja0:=fun o => fa (w.heap.size) o (by omega)
     have za1:w.heap.size + 1 < wa.heap.size:=by omega
     have ka1:=fun o => ca (w.heap.size + 1) o (by omega)
     have ja1:=fun o => fa (w.heap.size + 1) o (by omega)
     go_wp2_with fail;refine bodyPost_ret (v:=.tuple #[partZ,.int .i64 11]) (by simp (maxDischargeDepth:=8) [results,Tryz.results105,go_sem, *]) rfl ⟨by rw [ht.out];rfl,?_⟩;repeat (first | exact Gr.refl _ | apply Gr.alloc | apply Gr.drew | apply Gr.drewN | (refine Gr.setCell ?_ (by simp) _) | (refine Gr.trans ?_ (by assumption)))
   ·cases hleg:s.leg
    ·have ht:=tskErr_bad (.inl (allLegT_not hs hleg));replace ht:=Lib.hid ht;clear bd hj8;rw [hleg] at hc;replace hc:=Lib.hid hc;replace hleg:=Lib.hid hleg;go_wp2_with fail;refine (hc.out _).mono ?_;rintro e wa ⟨rfl,ga⟩;obtain ⟨ca,fa,sa⟩:=ga.cells;try simp only [size_drewN] at ca fa sa
     try simp only [World.size_alloc] at ca fa sa
     try simp only [World.size_drew] at ca fa sa
     try simp only [World.size_setCell] at ca fa sa
     have za0:w.heap.size < wa.heap.size:=by omega
     have ya0:w.heap.size≤wa.heap.size:=by omega
     have ka0:=fun o => ca (w.heap.size) o (by omega)
     have ja0:=fun o => fa (w.heap.size) o (by omega)
     have za1:w.heap.size + 1 < wa.heap.size:=by omega
     have ka1:=fun o => ca (w.heap.size + 1) o (by omega)
     have ja1:=fun o => fa (w.heap.size + 1) o (by omega)
     go_wp2_with fail;refine bodyPost_ret (v:=.tuple #[partZ,.int .i64 11]) (by simp (maxDischargeDepth:=8) [results,Tryz.results105,go_sem, *]) rfl ⟨by rw [ht.out];rfl,?_⟩;repeat (first | exact Gr.refl _ | apply Gr.alloc | apply Gr.drew | apply Gr.drewN | (refine Gr.setCell ?_ (by simp) _) | (refine Gr.trans ?_ (by assumption)))
    ·have hleg1:=(Tsk.leg_iff _).1 hleg;obtain ⟨s1,s2,s3,s4,s5,s6,s7,s8,s9⟩:=share_step (by omega) bd ⟨hleg1.1,Int.le_trans hleg1.2.1 hleg1.2.2.1,hleg1.2.2.2.1⟩;have hsn:shareT (l.take (j + 1)) = plusP (shareT (l.take j)) s.c s.p:=by rw [take_snoc hs,shareT_snoc]
     have hal2:allLegT (l.take (j + 1)) = true:=by rw [take_snoc hs,allLegT_snoc,hal.out,hleg];rfl
     replace hsn:=Lib.hid hsn;replace hal2:=Lib.hid hal2;rw [hleg] at hc;replace hc:=Lib.hid hc;replace hleg:=Lib.hid hleg;generalize shareT (l.take j) = p at *;obtain ⟨n,d⟩:=p;dsimp only at s1 s2 s3 s4 s5 s6 s7 s8 s9 x0 x1 x2 x3;clear bd;go_wp2_with fail;refine (hc.out _).mono ?_;rintro e wa ⟨rfl,ga⟩;obtain ⟨ca,fa,sa⟩:=ga.cells;try simp only [size_drewN] at ca fa sa
     try simp only [World.size_alloc] at ca fa sa
     try simp only [World.size_drew] at ca fa sa
     try simp only [World.size_setCell] at ca fa sa
     have za0:w.heap.size < wa.heap.size:=by omega
     have ya0:w.heap.size≤wa.heap.size:=by omega
     have ka0:=fun o => ca (w.heap.size) o (by omega)
     have ja0:=fun o => fa (w.heap.size) o (by omega)
     have za1:w.heap.size + 1 < wa.heap.size:=by omega
     have ka1:=fun o => ca (w.heap.size + 1) o (by omega)
     have ja1:=fun o => fa (w.heap.size + 1) o (by omega)
     have za2:wr.heap.size < wa.heap.size:=by omega
     have ya2:wr.heap.size≤wa.heap.size:=by omega
     have ka2:=fun o => ca (wr.heap.size) o (by omega)
     have ja2:=fun o => fa (wr.heap.size) o (by omega)
     go_wp2_with fail;refine (rshare_any n d s.c s.p _ s1 s2 s3 s4 s5 s6 s7 s8 s9).mono ?_;rintro e wp ⟨rfl,gp⟩;obtain ⟨cp,fp,sp⟩:=gp.cells;try simp only [size_drewN] at cp fp sp
     try simp only [World.size_alloc] at cp fp sp
     try simp only [World.size_drew] at cp fp sp
     try simp only [World.size_setCell] at cp fp sp
     have zp0:w.heap.size < wp.heap.size:=by omega
     have yp0:w.heap.size≤wp.heap.size:=by omega
     have kp0:=fun o => cp (w.heap.size) o (by omega)
     have jp0:=fun o => fp (w.heap.size) o (by omega)
     have zp1:w.heap.size + 1 < wp.heap.size:=by omega
     have kp1:=fun o => cp (w.heap.size + 1) o (by omega)
     have jp1:=fun o => fp (w.heap.size + 1) o (by omega)
     have zp2:wr.heap.size < wp.heap.size:=by omega
     have yp2:wr.heap.size≤wp.heap.size:=by omega
     have kp2:=fun o => cp (wr.heap.size) o (by omega)
     have jp2:=fun o => fp (wr.heap.size) o (by omega)
     go_wp2_with fail;go_roundw;case rel =>
      refine ⟨j + 1,by omega,.inr (by omega),hal2.out,by go_num,?_,by simp;omega,fun o => by simp [go_sem, *],?_,?_,?_,?_,fun o => by simp [go_sem, *],?_,?_,?_,?_⟩
      focus
       repeat (first | exact Gr.refl _ | apply Gr.alloc | apply Gr.drew | apply Gr.drewN | (refine Gr.setCell ?_ (by simp) _) | (refine Gr.trans ?_ (by assumption)))
      all_goals (first | (simp (maxDischargeDepth:=8) [go_sem, *];done) | (rw [hsn.out];simp (maxDischargeDepth:=8) [go_sem,plusP, *]))
     case measure => simp [intOf];omega
  ·have hj':j = l.length:=by omega
   subst hj';rw [List.take_length] at x0 x1 x2 x3 hal;have ht:tskErr l = none:=tskErr_good hal.out (by rcases hj8 with h | h <;> omega);replace ht:=Lib.hid ht;go_wp2_with fail;refine bodyPost_ret (v:=.tuple #[partV (shareT l),.int .i64 0]) (by simp (maxDischargeDepth:=8) [results,Tryz.results105,go_sem, *]) rfl ⟨by rw [ht.out];rfl,?_⟩;repeat (first | exact Gr.refl _ | apply Gr.alloc | apply Gr.drew | apply Gr.drewN | (refine Gr.setCell ?_ (by simp) _) | (refine Gr.trans ?_ (by assumption)))
end Go.Proofs.YtdfelohjdkcpkaaGreatDoor
namespace Go.Proofs.YtdfelohjdkcpkaaGreatDoor
open Go.RowKit
def wiB (o:Option Nat) (s:Srv):Bool:=(o == none) && (decide (s.k = 0∧s.q = 0∧s.t = 0) || s.leg)
def wiC (o:Option Nat) (p:Int × Int) (s:Srv):Int:=if wiB o s = true then (if s.k = 0∧s.q = 0∧s.t = 0 then cmpI p.1 p.2 else cmpI (p.1 * s.t) (p.2 * s.q)) else 0
set_option maxHeartbeats 800000 in
theorem within_bad {G:List Nat} {E:Nat→Addr} (a b c d:Int) (s:Srv) (w:World) (hE:EAt G E w) (i0:9 ∈ G) (hs:s.leg = false) (hz:¬ (s.k = 0∧s.q = 0∧s.t = 0)) :
 Calls Tryz.prog 235 #[.agg #[.int .u64 a,.int .u64 b,.int .u64 c,.int .u64 d],.agg #[.int .i64 s.k,.int .i64 s.q,.int .i64 s.t]] w fun e w' => e = .returned (.tuple #[.int .i64 0,.bool false])∧Gr w w':=by
 obtain ⟨k,q,t⟩:=s;dsimp only at hz ⊢;replace hs:=Lib.hid hs;have hE2:=hE.gr (((Gr.refl w).alloc (.cells #[.int .u64 a,.int .u64 b,.int .u64 c,.int .u64 d] 195)).alloc (.cells #[.int .i64 k,.int .i64 q,.int .i64 t] 29));by_cases hk:k = 0
 ·subst hk;by_cases hq:q = 0
  ·subst hq;have ht:¬ t = 0:=fun h => hz ⟨rfl,rfl,h⟩
   have ht':(t == 0) = false:=by simpa using ht
   clear hz ht;go_enter Tryz.func235,Tryz.ntmps235;go_wp2_with fail;refine (checkServer_no 0 0 t _ hE2 i0 hs.out).mono ?_;rintro e wa ⟨rfl,ga⟩;obtain ⟨ca,fa,sa⟩:=ga.cells;try simp only [size_drewN] at ca fa sa
   try simp only [World.size_alloc] at ca fa sa
   try simp only [World.size_drew] at ca fa sa
   try simp only [World.size_setCell] at ca fa sa
   have za0:w.heap.size < wa.heap.size:=by omega
   have ya0:w.heap.size≤wa.heap.size:=by omega
   have ka0:=fun o => ca (w.heap.size) o (by omega)
   have ja0:=fun o => fa (w.heap.size) o (by omega)
   have za1:w.heap.size + 1 < wa.heap.size:=by omega
   have ka1:=fun o => ca (w.heap.size + 1) o (by omega)
   have ja1:=fun o => fa (w.heap.size + 1) o (by omega)
   go_wp2_with fail;go_ret2;refine ⟨rfl,?_⟩;repeat (first | exact Gr.refl _ | apply Gr.alloc | apply Gr.drew | apply Gr.drewN | (refine Gr.setCell ?_ (by simp) _) | (refine Gr.trans ?_ (by assumption)))
  ·have hq':(q == 0) = false:=by simpa using hq
   clear hz hq;go_enter Tryz.func235,Tryz.ntmps235;go_wp2_with fail;refine (checkServer_no 0 q t _ hE2 i0 hs.out).mono ?_;rintro e wa ⟨rfl,ga⟩;obtain ⟨ca,fa,sa⟩:=ga.cells;try simp only [size_drewN] at ca fa sa
   try simp only [World.size_alloc] at ca fa sa
   try simp only [World.size_drew] at ca fa sa
   try simp only [World.size_setCell] at ca fa sa
   have za0:w.heap.size < wa.heap.size:=by omega
   have ya0:w.heap.size≤wa.heap.size:=by omega
   have ka0:=fun o => ca (w.heap.size) o (by omega)
   have ja0:=fun o => fa (w.heap.size) o (by omega)
   have za1:w.heap.size + 1 < wa.heap.size:=by omega
   have ka1:=fun o => ca (w.heap.size + 1) o (by omega)
   have ja1:=fun o => fa (w.heap.size + 1) o (by omega)
   go_wp2_with fail;go_ret2;refine ⟨rfl,?_⟩;repeat (first | exact Gr.refl _ | apply Gr.alloc | apply Gr.drew | apply Gr.drewN | (refine Gr.setCell ?_ (by simp) _) | (refine Gr.trans ?_ (by assumption)))
 ·have hk':(k == 0) = false:=by simpa using hk
  clear hz hk;go_enter Tryz.func235,Tryz.ntmps235;go_wp2_with fail;refine (checkServer_no k q t _ hE2 i0 hs.out).mono ?_;rintro e wa ⟨rfl,ga⟩;obtain ⟨ca,fa,sa⟩:=ga.cells;try simp only [size_drewN] at ca fa sa
  try simp only [World.size_alloc] at ca fa sa
  try simp only [World.size_drew] at ca fa sa
  try simp only [World.size_setCell] at ca fa sa
  have za0:w.heap.size < wa.heap.size:=by omega
  have ya0:w.heap.size≤wa.heap.size:=by omega
  have ka0:=fun o => ca (w.heap.size) o (by omega)
  have ja0:=fun o => fa (w.heap.size) o (by omega)
  have za1:w.heap.size + 1 < wa.heap.size:=by omega
  have ka1:=fun o => ca (w.heap.size + 1) o (by omega)
  have ja1:=fun o => fa (w.heap.size + 1) o (by omega)
  go_wp2_with fail;go_ret2;refine ⟨rfl,?_⟩;repeat (first | exact Gr.refl _ | apply Gr.alloc | apply Gr.drew | apply Gr.drewN | (refine Gr.setCell ?_ (by simp) _) | (refine Gr.trans ?_ (by assumption)))
set_option maxHeartbeats 800000 in
theorem within_leg0 (s:Srv) (w:World) (hs:s.leg = true) :
 Calls Tryz.prog 235 #[partZ,.agg #[.int .i64 s.k,.int .i64 s.q,.int .i64 s.t]] w fun e w' => e = .returned (.tuple #[.int .i64 0,.bool false])∧Gr w w':=by
 obtain ⟨h1,h2,h3,h4,h5⟩:=(Srv.leg_iff _).1 hs;replace hs:=Lib.hid hs;have ha:=fun w => against_zero 0 s.q s.t w
 have e0:hiW 0 = 0∧loW 0 = 0:=by decide
 rw [e0.1,e0.2] at ha;replace ha:=Lib.hid ha;clear e0;go_enter Tryz.func235,Tryz.ntmps235;go_wp2_with fail;refine (checkServer_yes s.k s.q s.t _ hs.out).mono ?_;rintro e wa ⟨rfl,ga⟩;obtain ⟨ca,fa,sa⟩:=ga.cells;try simp only [size_drewN] at ca fa sa
 try simp only [World.size_alloc] at ca fa sa
 try simp only [World.size_drew] at ca fa sa
 try simp only [World.size_setCell] at ca fa sa
 have za0:w.heap.size < wa.heap.size:=by omega
 have ya0:w.heap.size≤wa.heap.size:=by omega
 have ka0:=fun o => ca (w.heap.size) o (by omega)
 have ja0:=fun o => fa (w.heap.size) o (by omega)
 have za1:w.heap.size + 1 < wa.heap.size:=by omega
 have ka1:=fun o => ca (w.heap.size + 1) o (by omega)
 have ja1:=fun o => fa (w.heap.size + 1) o (by omega)
 go_wp2_with fail;refine (ha.out _).mono ?_;rintro e wb ⟨rfl,gb⟩;obtain ⟨cb,fb,sb⟩:=gb.cells;try simp only [size_drewN] at cb fb sb
 try simp only [World.size_alloc] at cb fb sb
 try simp only [World.size_drew] at cb fb sb
 try simp only [World.size_setCell] at cb fb sb
 have zb0:w.heap.size < wb.heap.size:=by omega
 have yb0:w.heap.size≤wb.heap.size:=by omega
 have kb0:=fun o => cb (w.heap.size) o (by omega)
 have jb0:=fun o => fb (w.heap.size) o (by omega)
 have zb1:w.heap.size + 1 < wb.heap.size:=by omega
 have kb1:=fun o => cb (w.heap.size + 1) o (by omega)
 have jb1:=fun o => fb (w.heap.size + 1) o (by omega)
 go_wp2_with fail;go_ret2;refine ⟨rfl,?_⟩;repeat (first | exact Gr.refl _ | apply Gr.alloc | apply Gr.drew | apply Gr.drewN | (refine Gr.setCell ?_ (by simp) _) | (refine Gr.trans ?_ (by assumption)))
set_option maxHeartbeats 800000 in
theorem within_whole0 (w:World) :
 Calls Tryz.prog 235 #[partZ,.agg #[.int .i64 0,.int .i64 0,.int .i64 0]] w fun e w' => e = .returned (.tuple #[.int .i64 0,.bool false])∧Gr w w':=by
 have ha:=fun w => against_zero 0 1 1 w
 have e0:hiW 0 = 0∧loW 0 = 0:=by decide
 rw [e0.1,e0.2] at ha;replace ha:=Lib.hid ha;clear e0;go_enter Tryz.func235,Tryz.ntmps235;go_wp2_with fail;refine (ha.out _).mono ?_;rintro e wb ⟨rfl,gb⟩;obtain ⟨cb,fb,sb⟩:=gb.cells;try simp only [size_drewN] at cb fb sb
 try simp only [World.size_alloc] at cb fb sb
 try simp only [World.size_drew] at cb fb sb
 try simp only [World.size_setCell] at cb fb sb
 have zb0:w.heap.size < wb.heap.size:=by omega
 have yb0:w.heap.size≤wb.heap.size:=by omega
 have kb0:=fun o => cb (w.heap.size) o (by omega)
 have jb0:=fun o => fb (w.heap.size) o (by omega)
 have zb1:w.heap.size + 1 < wb.heap.size:=by omega
 have kb1:=fun o => cb (w.heap.size + 1) o (by omega)
 have jb1:=fun o => fb (w.heap.size + 1) o (by omega)
 go_wp2_with fail;go_ret2;refine ⟨rfl,?_⟩;repeat (first | exact Gr.refl _ | apply Gr.alloc | apply Gr.drew | apply Gr.drewN | (refine Gr.setCell ?_ (by simp) _) | (refine Gr.trans ?_ (by assumption)))
theorem plan_within {G:List Nat} {E:Nat→Addr} (o:Option Nat) (p:Int × Int) (s:Srv) (w:World) (hE:EAt G E w) (i0:9 ∈ G) (hp:o = none→Shr p) :
 Calls Tryz.prog 235 #[pv o p,.agg #[.int .i64 s.k,.int .i64 s.q,.int .i64 s.t]] w fun e w' => e = .returned (.tuple #[.int .i64 (wiC o p s),.bool (wiB o s)])∧Gr w w':=by
 by_cases hz:s.k = 0∧s.q = 0∧s.t = 0
 ·obtain ⟨k,q,t⟩:=s;dsimp only at hz;obtain ⟨rfl,rfl,rfl⟩:=hz;cases o with
  | none => exact within_whole p w (hp rfl)
  | some g => exact within_whole0 w
 ·cases hs:s.leg
  ·have:wiB o s = false:=by unfold wiB;rw [decide_eq_false hz,hs];simp
   unfold wiC;rw [this];exact within_bad _ _ _ _ s w hE i0 hs hz
  ·cases o with
   | none =>
    have:wiB none s = true:=by unfold wiB;rw [hs];simp
    unfold wiC;rw [this,if_pos rfl,if_neg hz];exact within_leg p s w (hp rfl) hs
   | some g =>
    have:wiB (some g) s = false:=rfl;unfold wiC;rw [this];exact within_leg0 s w hs
theorem srvErr_shr {l:List Srv} (h:srvErr l = none):Shr (shareS l):=by
 unfold srvErr at h;split at h
 ·cases h
 ·rename_i h1;split at h
  ·cases h
  ·rename_i h2;exact shr_share (by simpa using h1) (by omega)
end Go.Proofs.YtdfelohjdkcpkaaGreatDoor
namespace Go.Proofs.YtdfelohjdkcpkaaGreatDoor
open Go.RowKit
end Go.Proofs.YtdfelohjdkcpkaaGreatDoor
namespace Go.Proofs.YtdfelohjdkcpkaaGreatDoor
open Go.RowKit
end Go.Proofs.YtdfelohjdkcpkaaGreatDoor
namespace Go.Proofs.YtdfelohjdkcpkaaGreatDoor
open Go.RowKit
abbrev intC (d:Int):List Value:=[.int .i64 d]
theorem intC_len (d:Int):(intC d).length = 1:=rfl
theorem intC_one (d:Int):∀ u ∈ intC d,u.oneCell' = true:=by intro u hu;simp at hu;subst hu;rfl
def IntsAt (w:World) (a:Option Addr) (l:List Int):Prop:=RecsAt 1 intC w a l
theorem IntsAt.gr {w w':World} {a:Option Addr} {l:List Int} (h:IntsAt w a l) (g:Gr w w'):IntsAt w' a l:=by
 intro i s hi;obtain ⟨b,off,ha,hb,hc⟩:=h i s hi;exact ⟨b,off,ha,Nat.lt_of_lt_of_le hb g.size,fun j u hu => by rw [g.cells.1 _ _ hb];exact hc j u hu⟩
theorem IntsAt.get {w:World} {a:Option Addr} {l:List Int} (h:IntsAt w a l) {i:Nat} {d:Int} (hd:l[i]? = some d):∃ b off,a = some ⟨b,off,none⟩∧b < w.heap.size∧w.cell? ⟨b,off + i,none⟩ = some (.int .i64 d):=by
 obtain ⟨b,off,ha,hb,hc⟩:=h i d hd;exact ⟨b,off,ha,hb,by simpa using hc 0 _ rfl⟩
theorem Tryz.infoInt:(Tryz.prog.info? 3).map (fun i => (i.zero,i.size,i.bytes)) = some (some (.int .i64 0),1,8):=by kernel_rfl
def demI (l:List Srv) (i:Int):Int:=sumI (fun s => askedI s i) l
def stepsL (l:List Srv):Nat→List Int
 | 0 => []
 | i + 1 => stepsL l i ++ if demI l i < demI l ((i:Int) + 1) then [(i:Int) + 1] else []
theorem demI_zero (l:List Srv) (h:allLeg l = true):demI l 0 = 0:=by
 unfold demI;have:∀ s ∈ l,askedI s 0 = 0:=fun s hs => by
  have:=(Srv.leg_iff s).1 (List.all_eq_true.1 h s hs);unfold askedI;simp;omega
 clear h;induction l with
 | nil => rfl
 | cons s r ih => rw [sumI_cons,this s (List.mem_cons_self ..),ih (fun x hx => this x (List.mem_cons_of_mem _ hx))];rfl
theorem stepsL_yes {l:List Srv} {i:Nat} (h:demI l i < demI l ((i:Int) + 1)):stepsL l (i + 1) = stepsL l i ++ [(i:Int) + 1]:=by rw [stepsL,if_pos h]
theorem stepsL_no {l:List Srv} {i:Nat} (h:¬ demI l i < demI l ((i:Int) + 1)):stepsL l (i + 1) = stepsL l i:=by rw [stepsL,if_neg h,List.append_nil]
theorem stepsL_len (l:List Srv) (i:Nat):(stepsL l i).length≤i:=by
 induction i with
 | zero => exact Nat.le_refl _
 | succ i ih => rw [stepsL,List.length_append];split <;> simp <;> omega
theorem stepsL_pre (l:List Srv) (i d:Nat):∃ r,stepsL l (i + d) = stepsL l i ++ r:=by
 induction d with
 | zero => exact ⟨[],by simp⟩
 | succ d ih =>
  obtain ⟨r,hr⟩:=ih;exact ⟨r ++ if demI l ((i + d:Nat):Int) < demI l (((i + d:Nat):Int) + 1) then [((i + d:Nat):Int) + 1] else [],by rw [← Nat.add_assoc,stepsL,hr,List.append_assoc]⟩
theorem stepsL_at {l:List Srv} {i n:Nat} (hn:i < n) (h:demI l i < demI l ((i:Int) + 1)):(stepsL l n)[(stepsL l i).length]? = some ((i:Int) + 1):=by
 obtain ⟨r,hr⟩:=stepsL_pre l (i + 1) (n - (i + 1));rw [show i + 1 + (n - (i + 1)) = n by omega,stepsL_yes h] at hr;rw [hr,List.append_assoc,List.getElem?_append_right (Nat.le_refl _),Nat.sub_self];rfl
theorem demI_bd {l:List Srv} (h:allLeg l = true) (h8:l.length≤8) {n:Int} (hn:LenOk n):0≤demI l n∧demI l n≤8 * (1099511627776 + 512):=by
 have:=sumI_bd (fun s => askedI s n) l (1099511627776 + 512) (fun x hx => by have:=asked_bd ((Srv.leg_iff _).1 (List.all_eq_true.1 h x hx)) hn;omega);unfold demI;omega
def StepsP (l:List Srv) (N:Nat) (w:World) (e:Ending) (w':World):Prop :=
 ∃ (a:Option Addr) (c:Nat),e = .returned (.slice a (stepsL l N).length c)∧IntsAt w' a (stepsL l N)∧Gr w w'
set_option maxHeartbeats 1600000 in
set_option maxRecDepth 100000 in
theorem steps_yes (a:Option Addr) (l:List Srv) (c:Nat) (n:Int) (N:Nat) (w:World) (hl:SrvsAt w a l) (h:srvErr l = none) (hck:chkS l 0 = none) (hal:allLeg l = true) (h8:l.length≤8) (hN:N = (min n 4096).toNat) (n1:-9223372036854775808≤n) (n2:n≤9223372036854775807) :
 Calls Tryz.prog 203 #[.slice a l.length c,.int .i64 n] w (StepsP l N w):=by
 obtain ⟨i3,hi,hz0,hz1,hz2⟩:=info_parts Tryz.infoInt;have hm1:N≤4096:=by omega
 replace hN:=Lib.hid hN;replace h:=Lib.hid h;replace hck:=Lib.hid hck;have hz:=demI_zero l hal;replace hz:=Lib.hid hz;replace hal:=Lib.hid hal;have hcase:n≤4096 ∨ 4096 < n:=by omega
 rcases hcase with hq | hq
 ·go_enter Tryz.func203,Tryz.ntmps203;go_wp2_with fail;refine (check_yes a l c 0 _ hl hck.out).mono ?_;rintro e wa ⟨rfl,ga⟩;obtain ⟨ca,fa,sa⟩:=ga.cells;try simp only [size_drewN] at ca fa sa
  try simp only [World.size_alloc] at ca fa sa
  try simp only [World.size_drew] at ca fa sa
  try simp only [World.size_setCell] at ca fa sa
  go_wp2_with fail;go_loopw [7,5,6] (fun lv ov tv wr => ∃ i:Nat,i≤N∧lv = .int .i64 ((i:Int) + 1)∧tv = .int .i64 (demI l i)∧wr.ownsRow w.heap.size 3 1 ov (stepsL l i).length ((stepsL l i).flatMap intC)∧Gr w wr) (fun lv _ _ _ => N + 1 - (intOf lv).toNat);case atStart => exact ⟨0,Nat.zero_le _,rfl,by rw [show ((0:Nat):Int) = 0 from rfl,hz.out],World.ownsRow_nil _ _ _ _,ga⟩
  case round =>
   obtain ⟨i,hiN,rfl,rfl,hown,hg⟩:=hrel;have bi:=demI_bd hal.out h8 (n:=i) ⟨by omega,by omega⟩;obtain ⟨bi1,bi2⟩:=bi;by_cases hlt:i < N
   ·have hon:LenOk ((i:Int) + 1):=⟨by omega,by omega⟩
    have hle:(i:Int) + 1≤n:=by have:=hN.out;omega
    have hle2:(i:Int) + 1≤4096:=by omega
    have bj:=demI_bd hal.out h8 hon;obtain ⟨bj1,bj2⟩:=bj;obtain ⟨wo,rfl⟩:∃ wo:World,wo = wr:=⟨_,rfl⟩
    go_wp2_with fail;go_loopw [22,8] (fun iv v wr => ∃ k:Nat,k≤l.length∧iv = .int .i64 k∧v = .int .i64 (demI (l.take k) ((i:Int) + 1))∧Gr wo wr) (fun iv _ _ => l.length - (intOf iv).toNat);case atStart => exact ⟨0,Nat.zero_le _,rfl,rfl,Gr.refl _⟩
    case round =>
     obtain ⟨k,hk,rfl,rfl,hgx⟩:=hrel;have hgw:Gr w wr:=hg.trans hgx;by_cases hkl:k < l.length
     ·obtain ⟨s,hs⟩:=get_some l k hkl;obtain ⟨b,off,rfl,hb,c0,c1,c2⟩:=(hl.gr hgw) k s hs;have hleg:=(Srv.leg_iff _).1 (allLeg_get hal.out hs);have bd:=asked_bd hleg hon;have sb:=demI_bd (l:=l.take k) (List.all_eq_true.2 fun x hx => List.all_eq_true.1 hal.out x (List.mem_of_mem_take hx)) (by rw [List.length_take];omega) hon;have hsn:demI (l.take (k + 1)) ((i:Int) + 1) = demI (l.take k) ((i:Int) + 1) + askedI s ((i:Int) + 1):=by unfold demI;rw [take_snoc hs,sumI_snoc]
      replace hsn:=Lib.hid hsn;generalize demI (l.take k) ((i:Int) + 1) = m at *;obtain ⟨bd1,bd2⟩:=bd;obtain ⟨sb1,sb2⟩:=sb;go_wp2_with fail;refine (asked_any s _ _ hleg hon).mono ?_;rintro e wd ⟨rfl,gd⟩;obtain ⟨cd,fd,sd⟩:=gd.cells;try simp only [size_drewN] at cd fd sd
      try simp only [World.size_alloc] at cd fd sd
      try simp only [World.size_drew] at cd fd sd
      try simp only [World.size_setCell] at cd fd sd
      go_wp2_with fail;go_roundw;case rel => exact ⟨k + 1,by omega,by go_num,by rw [hsn.out],(hgx.alloc _).trans gd⟩
      case measure => simp [intOf];omega
     ·have hall:l.take k = l:=List.take_of_length_le (by omega);rw [hall];by_cases hd:demI l i < demI l ((i:Int) + 1)
      ·have hst:=stepsL_yes hd;have ln:=stepsL_len l i;have n1:(stepsL l i).length + ([(i:Int) + 1]:List Int).length≤maxLen:=by unfold maxLen;simp;omega
       have n2:((stepsL l i).length + ([(i:Int) + 1]:List Int).length) * 8≤140737488355328:=by simp;omega
       replace hst:=Lib.hid hst;have n3:w.heap.size≤wr.heap.size:=hgw.size;have hown2:=owns_gr hown hgx;clear hown;go_wp2_with (at_builtin;refine wpList_append_recs (k:=1) (enc:=intC) rfl _ _ 72 rfl w.heap.size 3 i3 _ 8 Tryz.underlying72 hi hz0 hz1 hz2 rfl (by decide) intC_len intC_one _ (stepsL l i) rfl (hown2.alloc _) (some ⟨wr.heap.size,0,none⟩) 1 [(i:Int) + 1] rfl (recs_alloc intC_len wr [(i:Int) + 1] _ _ rfl) (fun h => by cases h) n1 n2 (le_alloc n3 _) ?_;intro v1 w1 hown1 hgr1);have hg1:Gr w w1:=(hgw.alloc _).grown hgr1 (own_block hown2);go_wp2_with fail;go_roundw;case rel => exact ⟨i + 1,by omega,by go_num,by simp,by rw [hst.out];exact hown1,hg1⟩
       case measure => simp [intOf];omega
      ·have hst:=stepsL_no hd;replace hst:=Lib.hid hst;have hown2:=owns_gr hown hgx;clear hown;go_wp2_with fail;go_roundw;case rel => exact ⟨i + 1,by omega,by go_num,by simp,by rw [hst.out];exact hown2,hgw⟩
       case measure => simp [intOf];omega
   ·have hle:¬ (i:Int) + 1≤n ∨ ¬ (i:Int) + 1≤4096:=by have:=hN.out;omega
    obtain rfl:i = N:=by omega
    have hle2:(n≤4096→n < (i:Int) + 1)∧(4096 < n→4096 < (i:Int) + 1):=by have:=hN.out;omega
    have hle3:=hle2.1 hq;clear hle hle2;obtain ⟨a',c',hv,hr,_,_⟩:=recs_of_owns intC_len hown;subst hv;go_wp2_with fail;go_ret;exact ⟨a',c',rfl,hr,hg⟩
 ·go_enter Tryz.func203,Tryz.ntmps203;go_wp2_with fail;refine (check_yes a l c 0 _ hl hck.out).mono ?_;rintro e wa ⟨rfl,ga⟩;obtain ⟨ca,fa,sa⟩:=ga.cells;try simp only [size_drewN] at ca fa sa
  try simp only [World.size_alloc] at ca fa sa
  try simp only [World.size_drew] at ca fa sa
  try simp only [World.size_setCell] at ca fa sa
  go_wp2_with fail;go_loopw [7,5,6] (fun lv ov tv wr => ∃ i:Nat,i≤N∧lv = .int .i64 ((i:Int) + 1)∧tv = .int .i64 (demI l i)∧wr.ownsRow w.heap.size 3 1 ov (stepsL l i).length ((stepsL l i).flatMap intC)∧Gr w wr) (fun lv _ _ _ => N + 1 - (intOf lv).toNat);case atStart => exact ⟨0,Nat.zero_le _,rfl,by rw [show ((0:Nat):Int) = 0 from rfl,hz.out],World.ownsRow_nil _ _ _ _,ga⟩
  case round =>
   obtain ⟨i,hiN,rfl,rfl,hown,hg⟩:=hrel;have bi:=demI_bd hal.out h8 (n:=i) ⟨by omega,by omega⟩;obtain ⟨bi1,bi2⟩:=bi;by_cases hlt:i < N
   ·have hon:LenOk ((i:Int) + 1):=⟨by omega,by omega⟩
    have hle:(i:Int) + 1≤n:=by have:=hN.out;omega
    have hle2:(i:Int) + 1≤4096:=by omega
    have bj:=demI_bd hal.out h8 hon;obtain ⟨bj1,bj2⟩:=bj;obtain ⟨wo,rfl⟩:∃ wo:World,wo = wr:=⟨_,rfl⟩
    go_wp2_with fail;go_loopw [22,8] (fun iv v wr => ∃ k:Nat,k≤l.length∧iv = .int .i64 k∧v = .int .i64 (demI (l.take k) ((i:Int) + 1))∧Gr wo wr) (fun iv _ _ => l.length - (intOf iv).toNat);case atStart => exact ⟨0,Nat.zero_le _,rfl,rfl,Gr.refl _⟩
    case round =>
     obtain ⟨k,hk,rfl,rfl,hgx⟩:=hrel;have hgw:Gr w wr:=hg.trans hgx;by_cases hkl:k < l.length
     ·obtain ⟨s,hs⟩:=get_some l k hkl;obtain ⟨b,off,rfl,hb,c0,c1,c2⟩:=(hl.gr hgw) k s hs;have hleg:=(Srv.leg_iff _).1 (allLeg_get hal.out hs);have bd:=asked_bd hleg hon;have sb:=demI_bd (l:=l.take k) (List.all_eq_true.2 fun x hx => List.all_eq_true.1 hal.out x (List.mem_of_mem_take hx)) (by rw [List.length_take];omega) hon;have hsn:demI (l.take (k + 1)) ((i:Int) + 1) = demI (l.take k) ((i:Int) + 1) + askedI s ((i:Int) + 1):=by unfold demI;rw [take_snoc hs,sumI_snoc]
      replace hsn:=Lib.hid hsn;generalize demI (l.take k) ((i:Int) + 1) = m at *;obtain ⟨bd1,bd2⟩:=bd;obtain ⟨sb1,sb2⟩:=sb;go_wp2_with fail;refine (asked_any s _ _ hleg hon).mono ?_;rintro e wd ⟨rfl,gd⟩;obtain ⟨cd,fd,sd⟩:=gd.cells;try simp only [size_drewN] at cd fd sd
      try simp only [World.size_alloc] at cd fd sd
      try simp only [World.size_drew] at cd fd sd
      try simp only [World.size_setCell] at cd fd sd
      go_wp2_with fail;go_roundw;case rel => exact ⟨k + 1,by omega,by go_num,by rw [hsn.out],(hgx.alloc _).trans gd⟩
      case measure => simp [intOf];omega
     ·have hall:l.take k = l:=List.take_of_length_le (by omega);rw [hall];by_cases hd:demI l i < demI l ((i:Int) + 1)
      ·have hst:=stepsL_yes hd;have ln:=stepsL_len l i;have n1:(stepsL l i).length + ([(i:Int) + 1]:List Int).length≤maxLen:=by unfold maxLen;simp;omega
       have n2:((stepsL l i).length + ([(i:Int) + 1]:List Int).length) * 8≤140737488355328:=by simp;omega
       replace hst:=Lib.hid hst;have n3:w.heap.size≤wr.heap.size:=hgw.size;have hown2:=owns_gr hown hgx;clear hown;go_wp2_with (at_builtin;refine wpList_append_recs (k:=1) (enc:=intC) rfl _ _ 72 rfl w.heap.size 3 i3 _ 8 Tryz.underlying72 hi hz0 hz1 hz2 rfl (by decide) intC_len intC_one _ (stepsL l i) rfl (hown2.alloc _) (some ⟨wr.heap.size,0,none⟩) 1 [(i:Int) + 1] rfl (recs_alloc intC_len wr [(i:Int) + 1] _ _ rfl) (fun h => by cases h) n1 n2 (le_alloc n3 _) ?_;intro v1 w1 hown1 hgr1);have hg1:Gr w w1:=(hgw.alloc _).grown hgr1 (own_block hown2);go_wp2_with fail;go_roundw;case rel => exact ⟨i + 1,by omega,by go_num,by simp,by rw [hst.out];exact hown1,hg1⟩
       case measure => simp [intOf];omega
      ·have hst:=stepsL_no hd;replace hst:=Lib.hid hst;have hown2:=owns_gr hown hgx;clear hown;go_wp2_with fail;go_roundw;case rel => exact ⟨i + 1,by omega,by go_num,by simp,by rw [hst.out];exact hown2,hgw⟩
       case measure => simp [intOf];omega
   ·have hle:¬ (i:Int) + 1≤n ∨ ¬ (i:Int) + 1≤4096:=by have:=hN.out;omega
    obtain rfl:i = N:=by omega
    have hle2:(n≤4096→n < (i:Int) + 1)∧(4096 < n→4096 < (i:Int) + 1):=by have:=hN.out;omega
    have hle3:=hle2.2 hq;clear hle hle2;obtain ⟨a',c',hv,hr,_,_⟩:=recs_of_owns intC_len hown;subst hv;go_wp2_with fail;go_ret;exact ⟨a',c',rfl,hr,hg⟩
end Go.Proofs.YtdfelohjdkcpkaaGreatDoor
namespace Go.Proofs.YtdfelohjdkcpkaaGreatDoor
open Go.RowKit
structure Nd where
 id:Int
 par:Int
 srv:Srv
 pol:Int
 tasks:List Tsk
abbrev Nd.cells (e:Nd) (a:Option Addr) (c:Nat):List Value:=[.int .i64 e.id,.int .i64 e.par,.int .i64 e.srv.k,.int .i64 e.srv.q,.int .i64 e.srv.t,.int .i64 e.pol,.slice a e.tasks.length c]
structure NdM where
 e:Nd
 a:Option Addr
 c:Nat
abbrev NdM.cells (x:NdM):List Value:=x.e.cells x.a x.c
theorem NdM.cells_len (x:NdM):x.cells.length = 7:=rfl
theorem NdM.cells_one (x:NdM):∀ u ∈ x.cells,u.oneCell' = true:=by
 intro u hu;simp at hu;rcases hu with rfl | rfl | rfl | rfl | rfl | rfl | rfl <;> rfl
def NdM.ok (K:Nat→Prop) (w:World) (x:NdM):Prop:=RecsIn K 4 Tsk.cells w x.a x.e.tasks∧(x.a = none→x.c = 0)∧x.e.tasks.length≤x.c∧x.c≤maxLen∧x.e.tasks.length * 32≤140737488351232
theorem NdM.ok.grx {K:Nat→Prop} {T:List Nat} {w w':World} {x:NdM} (h:x.ok K w) (g:GrX T w w') (hT:∀ y,y ∈ T→¬ K y):x.ok K w':=⟨h.1.grx g hT,h.2⟩
theorem NdM.ok.mono {K K':Nat→Prop} {w:World} {x:NdM} (h:x.ok K w) (hk:∀ b,b < w.heap.size→K b→K' b):x.ok K' w:=⟨h.1.mono hk,h.2⟩
theorem NdM.ok.grown {K:Nat→Prop} {w w':World} {x:NdM} {row:Option Nat} (h:x.ok K w) (hg:w.grownBy w' row) (hne:∀ ad,x.a = some ad→x.e.tasks ≠ []→row ≠ some ad.block):x.ok K w':=⟨⟨h.1.1.grown hg hne,h.1.2⟩,h.2⟩
def NodM (K:Nat→Prop) (w:World) (a:Option Addr) (L:List NdM):Prop:=RecsIn K 7 NdM.cells w a L∧∀ x ∈ L,x.ok K w
theorem NodM.grx {K:Nat→Prop} {T:List Nat} {w w':World} {a:Option Addr} {L:List NdM} (h:NodM K w a L) (g:GrX T w w') (hT:∀ y,y ∈ T→¬ K y):NodM K w' a L :=
 ⟨h.1.grx g hT,fun x hx => (h.2 x hx).grx g hT⟩
theorem NodM.mono {K K':Nat→Prop} {w:World} {a:Option Addr} {L:List NdM} (h:NodM K w a L) (hk:∀ b,b < w.heap.size→K b→K' b):NodM K' w a L:=⟨h.1.mono hk,fun x hx => (h.2 x hx).mono hk⟩
theorem NodM.nil (K:Nat→Prop) (w:World) (a:Option Addr):NodM K w a []:=⟨RecsIn.nil _ _ _ _ _,fun _ h => by cases h⟩
theorem NodM.gr {K:Nat→Prop} {w w':World} {a:Option Addr} {L:List NdM} (h:NodM K w a L) (g:Gr w w'):NodM K w' a L:=h.grx (T:=[]) (g.x []) (fun _ h => by cases h)
theorem NdM.ok.gr {K:Nat→Prop} {w w':World} {x:NdM} (h:x.ok K w) (g:Gr w w'):x.ok K w':=h.grx (T:=[]) (g.x []) (fun _ h => by cases h)
theorem NodM.get {K:Nat→Prop} {w:World} {a:Option Addr} {L:List NdM} (h:NodM K w a L) {i:Nat} {x:NdM} (hx:L[i]? = some x) :
 ∃ b off,a = some ⟨b,off,none⟩∧b < w.heap.size∧K b∧w.cell? ⟨b,off + i * 7,none⟩ = some (.int .i64 x.e.id)∧w.cell? ⟨b,off + i * 7 + 1,none⟩ = some (.int .i64 x.e.par)∧w.cell? ⟨b,off + i * 7 + 2,none⟩ = some (.int .i64 x.e.srv.k)∧w.cell? ⟨b,off + i * 7 + 3,none⟩ = some (.int .i64 x.e.srv.q)∧w.cell? ⟨b,off + i * 7 + 4,none⟩ = some (.int .i64 x.e.srv.t)∧w.cell? ⟨b,off + i * 7 + 5,none⟩ = some (.int .i64 x.e.pol)∧w.cell? ⟨b,off + i * 7 + 6,none⟩ = some (.slice x.a x.e.tasks.length x.c):=by
 obtain ⟨b,off,ha,hb,hc⟩:=h.1.1 i x hx;exact ⟨b,off,ha,hb,h.1.2 _ ha (fun e => by rw [e] at hx;cases hx),hc 0 _ rfl,hc 1 _ rfl,hc 2 _ rfl,hc 3 _ rfl,hc 4 _ rfl,hc 5 _ rfl,hc 6 _ rfl⟩
structure Gh where
 par:Int
 srv:Srv
 till:Int
abbrev Gh.cells (g:Gh):List Value:=[.int .i64 g.par,.int .i64 g.srv.k,.int .i64 g.srv.q,.int .i64 g.srv.t,.int .i64 g.till]
theorem Gh.cells_len (g:Gh):g.cells.length = 5:=rfl
theorem Gh.cells_one (g:Gh):∀ u ∈ g.cells,u.oneCell' = true:=by
 intro u hu;simp at hu;rcases hu with rfl | rfl | rfl | rfl | rfl <;> rfl
theorem gh_get {K:Nat→Prop} {w:World} {a:Option Addr} {L:List Gh} (h:RecsIn K 5 Gh.cells w a L) {i:Nat} {x:Gh} (hx:L[i]? = some x) :
 ∃ b off,a = some ⟨b,off,none⟩∧b < w.heap.size∧K b∧w.cell? ⟨b,off + i * 5,none⟩ = some (.int .i64 x.par)∧w.cell? ⟨b,off + i * 5 + 1,none⟩ = some (.int .i64 x.srv.k)∧w.cell? ⟨b,off + i * 5 + 2,none⟩ = some (.int .i64 x.srv.q)∧w.cell? ⟨b,off + i * 5 + 3,none⟩ = some (.int .i64 x.srv.t)∧w.cell? ⟨b,off + i * 5 + 4,none⟩ = some (.int .i64 x.till):=by
 obtain ⟨b,off,ha,hb,hc⟩:=h.1 i x hx;exact ⟨b,off,ha,hb,h.2 _ ha (fun e => by rw [e] at hx;cases hx),hc 0 _ rfl,hc 1 _ rfl,hc 2 _ rfl,hc 3 _ rfl,hc 4 _ rfl⟩
structure TreeV where
 nodes:List Nd
 ghosts:List Gh
 last:Int
 now:Int
structure TM where
 N:List NdM
 an:Option Addr
 cn:Nat
 G:List Gh
 ag:Option Addr
 cg:Nat
 last:Int
 now:Int
abbrev TM.v (T:TM):TreeV:=⟨T.N.map (·.e),T.G,T.last,T.now⟩
abbrev TM.row (T:TM):Array Value:=#[.slice T.an T.N.length T.cn,.slice T.ag T.G.length T.cg,.int .i64 T.last,.int .i64 T.now]
structure TreeAt (K:Nat→Prop) (w:World) (T:TM):Prop where
 n:NodM K w T.an T.N
 nn:T.an = none→T.cn = 0
 g:RecsIn K 5 Gh.cells w T.ag T.G
 gn:T.ag = none→T.cg = 0
 l1:T.N.length≤1000000
 l2:T.G.length≤1000000
theorem TreeAt.grx {K:Nat→Prop} {S:List Nat} {w w':World} {T:TM} (h:TreeAt K w T) (g:GrX S w w') (hT:∀ y,y ∈ S→¬ K y):TreeAt K w' T:=⟨h.n.grx g hT,h.nn,h.g.grx g hT,h.gn,h.l1,h.l2⟩
theorem TreeAt.gr {K:Nat→Prop} {w w':World} {T:TM} (h:TreeAt K w T) (g:Gr w w'):TreeAt K w' T:=h.grx (S:=[]) (g.x []) (fun _ h => by cases h)
theorem TreeAt.mono {K K':Nat→Prop} {w:World} {T:TM} (h:TreeAt K w T) (hk:∀ b,b < w.heap.size→K b→K' b):TreeAt K' w T:=⟨h.n.mono hk,h.nn,h.g.mono hk,h.gn,h.l1,h.l2⟩
theorem TreeAt.any {K:Nat→Prop} {w:World} {T:TM} (h:TreeAt K w T):TreeAt Any w T:=h.mono (fun _ _ _ => trivial)
theorem TreeAt.none (K:Nat→Prop) (w:World) (l n:Int):TreeAt K w ⟨[],.none,0,[],.none,0,l,n⟩:=⟨NodM.nil _ _ _,fun _ => rfl,RecsIn.nil _ _ _ _ _,fun _ => rfl,by simp,by simp⟩
end Go.Proofs.YtdfelohjdkcpkaaGreatDoor
namespace Go.Proofs.YtdfelohjdkcpkaaGreatDoor
open Go.RowKit
theorem owns_cap {w:World} {base:Nat} {e:TypeId} {size:Nat} {v:Value} {n:Nat} {xs:List Value} {a:Option Addr} {m c:Nat} (h:w.ownsRow base e size v n xs) (hv:v = .slice a m c):n≤c∧c≤maxLen:=by
 obtain ⟨_,⟨h1,h2⟩ | ⟨g,cap,cur,h1,_,_,h2,h3,_⟩⟩:=h
 ·rw [hv] at h1;cases h1;exact ⟨by omega,Nat.zero_le _⟩
 ·rw [hv] at h1;cases h1;exact ⟨h2,h3⟩
theorem owns_free {w:World} {base:Nat} {e:TypeId} {size:Nat} {n m c:Nat} {xs:List Value} {a:Option Addr} {ad:Addr} (h:w.ownsRow base e size (.slice a m c) n xs) (ha:a = some ad) (o:Nat):w.frozen? ⟨ad.block,o,none⟩ = false:=by
 obtain ⟨_,hn | ⟨g,cap,cur,hv,_,hh,_⟩⟩:=h
 ·rw [ha] at hn;cases hn.1
 ·rw [ha] at hv;cases hv;simp [World.frozen?,hh]
def NewF {α:Type} (k:Nat) (enc:α→List Value) (e:TypeId) (l:List α) (w:World) (x:Ending) (w':World):Prop :=
 ∃ a c,x = .returned (.slice a l.length c)∧RecsIn (fun b => w.heap.size≤b) k enc w' a l∧(a = none→c = 0)∧l.length≤c∧c≤maxLen∧Gr w w'∧(∀ ad,a = some ad→l ≠ []→∀ o,w'.frozen? ⟨ad.block,o,none⟩ = false)∧w'.ownsRow w.heap.size e k (.slice a l.length c) l.length (l.flatMap enc)
set_option maxRecDepth 100000 in
set_option maxHeartbeats 800000 in
theorem cloneF_any (a:Option Addr) (c:Nat) (l:List Tsk) (w:World) (h:RecsAt 4 Tsk.cells w a l) (hc:a = none→c = 0) (hm:l.length * 32≤140737488351232) :
 Calls Tryz.prog 71 #[.slice a l.length c] w (NewF 4 Tsk.cells 41 l w):=by
 obtain ⟨i72,hi,hz0,hz1,hz2⟩:=info_parts Tryz.infoTsk;have hmm:l.length≤maxLen:=by unfold maxLen;omega
 have n2:l.length * 32≤140737488355328:=by omega
 have hnil:=fun (w:World) a n c => Lib.run_eql_slice_nil (P:=Tryz.prog) w 30 41 a n c 0 0 Tryz.underlying30
 cases a with
 | none =>
  obtain rfl:=hc rfl;obtain rfl:l = []:=by
   cases l with
   | nil => rfl
   | cons y r => obtain ⟨b,off,hh,_⟩:=h 0 y rfl;cases hh
  go_enter Tryz.func71,Tryz.ntmps71;go_wp2_with fail;go_ret;exact ⟨none,0,rfl,RecsIn.nil _ _ _ _ _,(fun _ => rfl),Nat.le_refl _,Nat.zero_le _,Gr.refl _,(fun _ h => by cases h),World.ownsRow_nil _ _ _ _⟩
 | some ad =>
  go_enter Tryz.func71,Tryz.ntmps71;go_wp2_with (at_builtin;refine wpList_copyN (k:=4) (enc:=Tsk.cells) rfl _ _ 30 rfl 41 i72 _ 32 Tryz.underlying30 hi hz0 hz1 hz2 rfl (by decide) Tsk.cells_len Tsk.cells_one w.heap.size rfl rfl (some ad) c l rfl h hc hmm n2 ?_;intro v1 w1 hown g1);obtain ⟨a',c',rfl,hr,hn,hb⟩:=recs_of_owns Tsk.cells_len hown;have hcap:=owns_cap hown rfl;go_wp2_with fail;go_ret;exact ⟨a',c',rfl,⟨hr,fun x hx _ => hb x hx⟩,hn,hcap.1,hcap.2,g1,fun ad ha _ o => owns_free hown ha o,hown⟩
theorem Tryz.infoGh:(Tryz.prog.info? 43).map (fun i => (i.zero,i.size,i.bytes)) = some (some (.agg #[.int .i64 0,.int .i64 0,.int .i64 0,.int .i64 0,.int .i64 0]),5,40):=by kernel_rfl
theorem Tryz.infoNd:(Tryz.prog.info? 39).map (fun i => (i.zero,i.size,i.bytes)) = some (some (.agg #[.int .i64 0,.int .i64 0,.int .i64 0,.int .i64 0,.int .i64 0,.int .i64 0,.slice none 0 0]),7,72):=by kernel_rfl
set_option maxRecDepth 100000 in
set_option maxHeartbeats 800000 in
theorem cloneG_any (a:Option Addr) (c:Nat) (l:List Gh) (w:World) (h:RecsAt 5 Gh.cells w a l) (hc:a = none→c = 0) (hm:l.length * 40≤140737488351232) :
 Calls Tryz.prog 92 #[.slice a l.length c] w (NewF 5 Gh.cells 43 l w):=by
 obtain ⟨i72,hi,hz0,hz1,hz2⟩:=info_parts Tryz.infoGh;have hmm:l.length≤maxLen:=by unfold maxLen;omega
 have n2:l.length * 40≤140737488355328:=by omega
 have hnil:=fun (w:World) a n c => Lib.run_eql_slice_nil (P:=Tryz.prog) w 25 43 a n c 0 0 Tryz.underlying25
 cases a with
 | none =>
  obtain rfl:=hc rfl;obtain rfl:l = []:=by
   cases l with
   | nil => rfl
   | cons y r => obtain ⟨b,off,hh,_⟩:=h 0 y rfl;cases hh
  go_enter Tryz.func92,Tryz.ntmps92;go_wp2_with fail;go_ret;exact ⟨none,0,rfl,RecsIn.nil _ _ _ _ _,(fun _ => rfl),Nat.le_refl _,Nat.zero_le _,Gr.refl _,(fun _ h => by cases h),World.ownsRow_nil _ _ _ _⟩
 | some ad =>
  go_enter Tryz.func92,Tryz.ntmps92;go_wp2_with (at_builtin;refine wpList_copyN (k:=5) (enc:=Gh.cells) rfl _ _ 25 rfl 43 i72 _ 40 Tryz.underlying25 hi hz0 hz1 hz2 rfl (by decide) Gh.cells_len Gh.cells_one w.heap.size rfl rfl (some ad) c l rfl h hc hmm n2 ?_;intro v1 w1 hown g1);obtain ⟨a',c',rfl,hr,hn,hb⟩:=recs_of_owns Gh.cells_len hown;have hcap:=owns_cap hown rfl;go_wp2_with fail;go_ret;exact ⟨a',c',rfl,⟨hr,fun x hx _ => hb x hx⟩,hn,hcap.1,hcap.2,g1,fun ad ha _ o => owns_free hown ha o,hown⟩
end Go.Proofs.YtdfelohjdkcpkaaGreatDoor
namespace Go.Proofs.YtdfelohjdkcpkaaGreatDoor
open Go.RowKit
structure Row where
 gap:Int
 q:Int
 t:Int
def whole (s:Srv):Bool:=decide (s.k = 0∧s.q = 0∧s.t = 0)
def parOk (s:Srv):Bool:=whole s || s.leg
def rowI (s:Srv):Row:=if whole s = true then ⟨0,1,1⟩ else if s.k = 3 then ⟨s.t - s.q,s.q,s.t⟩ else ⟨s.t - 1,s.q,s.t⟩
structure RowOk (r:Row):Prop where
 g0:0≤r.gap
 g1:r.gap≤r.t - 1
 q1:1≤r.q
 qt:r.q≤r.t
 t2:r.t≤256
theorem rowI_ok {s:Srv} (h:parOk s = true):RowOk (rowI s):=by
 unfold rowI;cases hw:whole s with
 | true => rw [if_pos rfl];exact ⟨by decide,by decide,by decide,by decide,by decide⟩
 | false =>
  unfold parOk at h;rw [hw,Bool.false_or] at h;obtain ⟨h1,h2,h3,h4,h5⟩:=(Srv.leg_iff _).1 h;rw [if_neg (by decide)];split
  ·exact ⟨by dsimp only;omega,by dsimp only;omega,h3,h4,h5⟩
  ·exact ⟨by dsimp only;omega,by dsimp only;omega,h3,h4,h5⟩
def givM (r:Row) (m:Int):Int:=m / r.t * r.q + max 0 (m % r.t - (r.t - r.q))
def givI (r:Row) (l:Int):Int:=if l - r.gap≤0 then 0 else givM r (l - r.gap)
theorem givM_parts {r:Row} (h:RowOk r) {m:Int} (hm:0≤m):∃ x u,m = r.t * x + u∧0≤x∧0≤u∧u < r.t∧m / r.t = x∧m % r.t = u:=by
 have ht:0 < r.t:=by have:=h.q1;have:=h.qt;omega
 exact ⟨m / r.t,m % r.t,by have:=Int.mul_ediv_add_emod m r.t;omega,Int.ediv_nonneg hm (by omega),Int.emod_nonneg _ (by omega),Int.emod_lt_of_pos _ ht,rfl,rfl⟩
theorem givM_nonneg {r:Row} (h:RowOk r) {m:Int} (hm:0≤m):0≤givM r m:=by
 obtain ⟨x,u,hx,x0,u0,u1,e1,e2⟩:=givM_parts h hm;unfold givM;rw [e1,e2];have:=Int.mul_nonneg x0 (show 0≤r.q by have:=h.q1;omega);omega
theorem givM_le {r:Row} (h:RowOk r) {m:Int} (hm:0≤m):givM r m≤m:=by
 obtain ⟨x,u,hx,x0,u0,u1,e1,e2⟩:=givM_parts h hm;unfold givM;rw [e1,e2];have h1:=Int.mul_le_mul_of_nonneg_left h.qt x0;have h2:=Int.mul_comm r.t x;have:=h.q1;have:=h.qt;omega
theorem givM_mono {r:Row} (h:RowOk r) {a b:Int} (ha:0≤a) (hab:a≤b):givM r a≤givM r b:=by
 obtain ⟨x,u,hx,x0,u0,u1,e1,e2⟩:=givM_parts h ha;obtain ⟨y,v,hy,y0,v0,v1,f1,f2⟩:=givM_parts h (show 0≤b by omega);unfold givM;rw [e1,e2,f1,f2];have q1:=h.q1;have qt:=h.qt;have hxy:x≤y:=by
  have h1:r.t * x < r.t * (y + 1):=by rw [Int.mul_add,Int.mul_one];omega
  have:=Int.lt_of_mul_lt_mul_left h1 (by omega);omega
 by_cases he:x = y
 ·subst he;omega
 ·have h1:(x + 1) * r.q≤y * r.q:=Int.mul_le_mul_of_nonneg_right (by omega) (by omega);rw [Int.add_mul,Int.one_mul] at h1;omega
theorem giv_nonneg {r:Row} (h:RowOk r) (l:Int):0≤givI r l:=by
 unfold givI;split
 ·exact Int.le_refl _
 ·exact givM_nonneg h (by omega)
theorem giv_le {r:Row} (h:RowOk r) {l:Int} (hl:0≤l):givI r l≤l:=by
 unfold givI;have:=h.g0;split
 ·exact hl
 ·have:=givM_le h (show 0≤l - r.gap by omega);omega
theorem giv_mono {r:Row} (h:RowOk r) {a b:Int} (hab:a≤b):givI r a≤givI r b:=by
 unfold givI;by_cases h1:a - r.gap≤0
 ·rw [if_pos h1];split
  ·exact Int.le_refl _
  ·exact givM_nonneg h (by omega)
 ·rw [if_neg h1,if_neg (by omega)];exact givM_mono h (by omega) (by omega)
theorem giv_slope {r:Row} (h:RowOk r) (l:Int):r.q * (l - (r.gap + r.t - r.q))≤r.t * givI r l:=by
 have q1:=h.q1;have qt:=h.qt;unfold givI;split
 ·rw [Int.mul_zero];exact Int.mul_nonpos_of_nonneg_of_nonpos (by omega) (by omega)
 ·rename_i hm;obtain ⟨x,u,hx,x0,u0,u1,e1,e2⟩:=givM_parts h (show 0≤l - r.gap by omega);unfold givM;rw [e1,e2,Int.mul_add,show l - (r.gap + r.t - r.q) = r.t * x + (u - (r.t - r.q)) by omega,Int.mul_add,← Int.mul_assoc,← Int.mul_assoc];have e3:r.q * r.t * x = r.t * x * r.q:=by rw [Int.mul_comm r.q r.t,Int.mul_assoc,Int.mul_assoc,Int.mul_comm r.q x]
  rw [e3];by_cases hu:u - (r.t - r.q)≤0
  ·rw [show max 0 (u - (r.t - r.q)) = 0 by omega,Int.mul_zero];have:=Int.mul_nonpos_of_nonneg_of_nonpos (show 0≤r.q by omega) hu;omega
  ·rw [show max 0 (u - (r.t - r.q)) = u - (r.t - r.q) by omega];have:=Int.mul_le_mul_of_nonneg_right qt (show 0≤u - (r.t - r.q) by omega);omega
end Go.Proofs.YtdfelohjdkcpkaaGreatDoor
namespace Go.Proofs.YtdfelohjdkcpkaaGreatDoor
open Go.RowKit
theorem srv_eql (a b:Srv) (w:World):(binOp .eql 29 (.agg #[.int .i64 a.k,.int .i64 a.q,.int .i64 a.t]) (.agg #[.int .i64 b.k,.int .i64 b.q,.int .i64 b.t])).run Tryz.prog w = .ok (.bool (decide (a.k = b.k∧a.q = b.q∧a.t = b.t))) w:=by
 by_cases h1:a.k = b.k
 ·by_cases h2:a.q = b.q
  ·by_cases h3:a.t = b.t
   ·simp [go_sem,h1,h2,h3]
   ·simp [go_sem,h1,h2,h3]
  ·simp [go_sem,h1,h2]
 ·simp [go_sem,h1]
set_option maxHeartbeats 800000 in
theorem of_yes (s:Srv) (w:World) (h:parOk s = true) :
 Calls Tryz.prog 231 #[.agg #[.int .i64 s.k,.int .i64 s.q,.int .i64 s.t]] w fun e w' => e = .returned (.tuple #[.agg #[.int .i64 (rowI s).gap,.int .i64 (rowI s).q,.int .i64 (rowI s).t],.nilIface])∧Gr w w':=by
 have hs:=fun w => srv_eql s ⟨0,0,0⟩ w
 dsimp only at hs;rw [show decide (s.k = 0∧s.q = 0∧s.t = 0) = whole s from rfl] at hs;unfold rowI;cases hw:whole s with
 | true =>
  rw [hw] at hs;rw [if_pos rfl];replace hw:=Lib.hid hw;go_enter Tryz.func231,Tryz.ntmps231;go_wp2_with fail;refine bodyPost_ret (v:=.tuple #[.agg #[.int .i64 0,.int .i64 1,.int .i64 1],.nilIface]) (by simp [results,Tryz.results231,go_sem, *]) rfl ⟨rfl,(by repeat (first | exact Gr.refl _ | apply Gr.alloc | apply Gr.drew | apply Gr.drewN | (refine Gr.setCell ?_ (by first | (simp;done) | (simp;omega)) _) | (refine Gr.trans ?_ (by assumption))))⟩
 | false =>
  rw [hw] at hs;rw [if_neg (by decide)];unfold parOk at h;rw [hw,Bool.false_or] at h;have hck:=fun w => checkServer_yes s.k s.q s.t w h
  obtain ⟨h1,h2,h3,h4,h5⟩:=(Srv.leg_iff _).1 h;replace hck:=Lib.hid hck;replace hw:=Lib.hid hw;replace h:=Lib.hid h;by_cases h3':s.k = 3
  ·rw [if_pos h3'];have e3:(s.k == 3) = true:=by simpa using h3'
   clear h3';go_enter Tryz.func231,Tryz.ntmps231;go_wp2_with fail;refine (hck.out _).mono ?_;rintro e wa ⟨rfl,ga⟩;obtain ⟨ca,fa,sa⟩:=ga.cells;try simp only [size_drewN] at ca fa sa
   try simp only [World.size_alloc] at ca fa sa
   try simp only [World.size_drew] at ca fa sa
   try simp only [World.size_setCell] at ca fa sa
   have za0:w.heap.size < wa.heap.size:=by omega
   have ya0:w.heap.size≤wa.heap.size:=by omega
   have ka0:=fun o => ca (w.heap.size) o (by omega)
   have ja0:=fun o => fa (w.heap.size) o (by omega)
   have za1:w.heap.size + 1 < wa.heap.size:=by omega
   have ka1:=fun o => ca (w.heap.size + 1) o (by omega)
   have ja1:=fun o => fa (w.heap.size + 1) o (by omega)
   go_wp2_with fail;refine bodyPost_ret (v:=.tuple #[.agg #[.int .i64 (s.t - s.q),.int .i64 s.q,.int .i64 s.t],.nilIface]) (by simp [results,Tryz.results231,go_sem, *]) rfl ⟨rfl,(by repeat (first | exact Gr.refl _ | apply Gr.alloc | apply Gr.drew | apply Gr.drewN | (refine Gr.setCell ?_ (by first | (simp;done) | (simp;omega)) _) | (refine Gr.trans ?_ (by assumption))))⟩
  ·rw [if_neg h3'];have e3:(s.k == 3) = false:=by simpa using h3'
   clear h3';go_enter Tryz.func231,Tryz.ntmps231;go_wp2_with fail;refine (hck.out _).mono ?_;rintro e wa ⟨rfl,ga⟩;obtain ⟨ca,fa,sa⟩:=ga.cells;try simp only [size_drewN] at ca fa sa
   try simp only [World.size_alloc] at ca fa sa
   try simp only [World.size_drew] at ca fa sa
   try simp only [World.size_setCell] at ca fa sa
   have za0:w.heap.size < wa.heap.size:=by omega
   have ya0:w.heap.size≤wa.heap.size:=by omega
   have ka0:=fun o => ca (w.heap.size) o (by omega)
   have ja0:=fun o => fa (w.heap.size) o (by omega)
   have za1:w.heap.size + 1 < wa.heap.size:=by omega
   have ka1:=fun o => ca (w.heap.size + 1) o (by omega)
   have ja1:=fun o => fa (w.heap.size + 1) o (by omega)
   go_wp2_with fail;refine bodyPost_ret (v:=.tuple #[.agg #[.int .i64 (s.t - 1),.int .i64 s.q,.int .i64 s.t],.nilIface]) (by simp [results,Tryz.results231,go_sem, *]) rfl ⟨rfl,(by repeat (first | exact Gr.refl _ | apply Gr.alloc | apply Gr.drew | apply Gr.drewN | (refine Gr.setCell ?_ (by first | (simp;done) | (simp;omega)) _) | (refine Gr.trans ?_ (by assumption))))⟩
set_option maxHeartbeats 800000 in
theorem of_no {G:List Nat} {E:Nat→Addr} (s:Srv) (w:World) (hE:EAt G E w) (i0:9 ∈ G) (h:parOk s = false) :
 Calls Tryz.prog 231 #[.agg #[.int .i64 s.k,.int .i64 s.q,.int .i64 s.t]] w fun e w' => e = .returned (.tuple #[.agg #[.int .i64 0,.int .i64 0,.int .i64 0],(Value.iface 384 (.pointer (some (E 9))))])∧Gr w w':=by
 have hs:=fun w => srv_eql s ⟨0,0,0⟩ w
 dsimp only at hs;rw [show decide (s.k = 0∧s.q = 0∧s.t = 0) = whole s from rfl] at hs;unfold parOk at h;rw [Bool.or_eq_false_iff] at h;obtain ⟨hw,hl⟩:=h;rw [hw] at hs;have hck:=fun w (g:EAt G E w) => checkServer_no s.k s.q s.t w g i0 hl
 replace hck:=Lib.hid hck;replace hw:=Lib.hid hw;replace hl:=Lib.hid hl;go_enter Tryz.func231,Tryz.ntmps231;go_wp2_with fail;refine (hck.out _ (hE.gr (((Gr.refl w).alloc _).alloc _))).mono ?_;rintro e wa ⟨rfl,ga⟩;obtain ⟨ca,fa,sa⟩:=ga.cells;try simp only [size_drewN] at ca fa sa
 try simp only [World.size_alloc] at ca fa sa
 try simp only [World.size_drew] at ca fa sa
 try simp only [World.size_setCell] at ca fa sa
 have za0:w.heap.size < wa.heap.size:=by omega
 have ya0:w.heap.size≤wa.heap.size:=by omega
 have ka0:=fun o => ca (w.heap.size) o (by omega)
 have ja0:=fun o => fa (w.heap.size) o (by omega)
 have za1:w.heap.size + 1 < wa.heap.size:=by omega
 have ka1:=fun o => ca (w.heap.size + 1) o (by omega)
 have ja1:=fun o => fa (w.heap.size + 1) o (by omega)
 go_wp2_with fail;refine bodyPost_ret (v:=.tuple #[.agg #[.int .i64 0,.int .i64 0,.int .i64 0],(Value.iface 384 (.pointer (some (E 9))))]) (by simp [results,Tryz.results231,go_sem, *]) rfl ⟨rfl,(by repeat (first | exact Gr.refl _ | apply Gr.alloc | apply Gr.drew | apply Gr.drewN | (refine Gr.setCell ?_ (by first | (simp;done) | (simp;omega)) _) | (refine Gr.trans ?_ (by assumption))))⟩
end Go.Proofs.YtdfelohjdkcpkaaGreatDoor
namespace Go.Proofs.YtdfelohjdkcpkaaGreatDoor
open Go.RowKit
set_option maxHeartbeats 800000 in
theorem given_any (r:Row) (l:Int) (w:World) (hr:RowOk r) (hl:LenOk l) :
 Calls Tryz.prog 243 #[.agg #[.int .i64 r.gap,.int .i64 r.q,.int .i64 r.t],.int .i64 l] w fun e w' => e = .returned (.int .i64 (givI r l))∧Gr w w':=by
 obtain ⟨g0,g1,q1,qt,t2⟩:=hr;obtain ⟨l1,l2⟩:=hl;unfold givI;by_cases hm:l - r.gap≤0
 ·rw [if_pos hm];go_enter Tryz.func243,Tryz.ntmps243;go_wp2_with fail;go_ret;exact ⟨rfl,(by repeat (first | exact Gr.refl _ | apply Gr.alloc | apply Gr.drew | apply Gr.drewN | (refine Gr.setCell ?_ (by first | (simp;done) | (simp;omega)) _) | (refine Gr.trans ?_ (by assumption))))⟩
 ·rw [if_neg hm];obtain ⟨m,hmm⟩:∃ m,l - r.gap = m:=⟨_,rfl⟩
  have m1:0 < m:=by omega
  have m2:m≤1099511627776:=by omega
  obtain ⟨q0,q1',q2⟩:=quo_mul_le (show 0≤m by omega) (show 0≤r.q by omega) (show 1≤r.t by omega) qt;have n0:=Int.emod_nonneg m (show r.t ≠ 0 by omega);have n1:=Int.emod_lt_of_pos m (show 0 < r.t by omega);unfold givM;rw [hmm];clear hm;go_enter Tryz.func243,Tryz.ntmps243;go_wp2_with fail;go_quiet (fail);go_wp2_with fail;all_goals
   go_ret;exact ⟨ret1 (by first | rfl | (rw [Int.max_def];split <;> omega)),(by repeat (first | exact Gr.refl _ | apply Gr.alloc | apply Gr.drew | apply Gr.drewN | (refine Gr.setCell ?_ (by first | (simp;done) | (simp;omega)) _) | (refine Gr.trans ?_ (by assumption))))⟩
set_option maxHeartbeats 800000 in
theorem bound_yes (s:Srv) (l:Int) (w:World) (h:parOk s = true) (hl:LenOk l) :
 Calls Tryz.prog 209 #[.agg #[.int .i64 s.k,.int .i64 s.q,.int .i64 s.t],.int .i64 l] w fun e w' => e = .returned (.tuple #[.int .i64 (givI (rowI s) l),.nilIface])∧Gr w w':=by
 have hof:=fun w => of_yes s w h
 have hgv:=fun w => given_any (rowI s) l w (rowI_ok h) hl
 obtain ⟨l1,l2⟩:=hl;replace h:=Lib.hid h;replace hof:=Lib.hid hof;replace hgv:=Lib.hid hgv;go_enter Tryz.func209,Tryz.ntmps209;go_wp2_with fail;refine (hof.out _).mono ?_;rintro e wa ⟨rfl,ga⟩;obtain ⟨ca,fa,sa⟩:=ga.cells;try simp only [size_drewN] at ca fa sa
 try simp only [World.size_alloc] at ca fa sa
 try simp only [World.size_drew] at ca fa sa
 try simp only [World.size_setCell] at ca fa sa
 have za0:w.heap.size < wa.heap.size:=by omega
 have ya0:w.heap.size≤wa.heap.size:=by omega
 have ka0:=fun o => ca (w.heap.size) o (by omega)
 have ja0:=fun o => fa (w.heap.size) o (by omega)
 go_wp2_with fail;go_wp2_with fail;refine (hgv.out _).mono ?_;rintro e wb ⟨rfl,gb⟩;obtain ⟨cb,fb,sb⟩:=gb.cells;try simp only [size_drewN] at cb fb sb
 try simp only [World.size_alloc] at cb fb sb
 try simp only [World.size_drew] at cb fb sb
 try simp only [World.size_setCell] at cb fb sb
 have zb0:w.heap.size < wb.heap.size:=by omega
 have yb0:w.heap.size≤wb.heap.size:=by omega
 have kb0:=fun o => cb (w.heap.size) o (by omega)
 have jb0:=fun o => fb (w.heap.size) o (by omega)
 go_wp2_with fail;go_ret2;exact ⟨rfl,(by repeat (first | exact Gr.refl _ | apply Gr.alloc | apply Gr.drew | apply Gr.drewN | (refine Gr.setCell ?_ (by first | (simp;done) | (simp;omega)) _) | (refine Gr.trans ?_ (by assumption))))⟩
set_option maxHeartbeats 800000 in
theorem silence_yes (s:Srv) (w:World) (h:parOk s = true) :
 Calls Tryz.prog 199 #[.agg #[.int .i64 s.k,.int .i64 s.q,.int .i64 s.t]] w fun e w' => e = .returned (.tuple #[.int .i64 ((rowI s).gap + (rowI s).t - (rowI s).q),.nilIface])∧Gr w w':=by
 have hof:=fun w => of_yes s w h
 obtain ⟨g0,g1,q1,qt,t2⟩:=rowI_ok h;replace h:=Lib.hid h;replace hof:=Lib.hid hof;go_enter Tryz.func199,Tryz.ntmps199;go_wp2_with fail;refine (hof.out _).mono ?_;rintro e wa ⟨rfl,ga⟩;obtain ⟨ca,fa,sa⟩:=ga.cells;try simp only [size_drewN] at ca fa sa
 try simp only [World.size_alloc] at ca fa sa
 try simp only [World.size_drew] at ca fa sa
 try simp only [World.size_setCell] at ca fa sa
 have za0:w.heap.size < wa.heap.size:=by omega
 have ya0:w.heap.size≤wa.heap.size:=by omega
 have ka0:=fun o => ca (w.heap.size) o (by omega)
 have ja0:=fun o => fa (w.heap.size) o (by omega)
 go_wp2_with fail;go_ret2;exact ⟨rfl,(by repeat (first | exact Gr.refl _ | apply Gr.alloc | apply Gr.drew | apply Gr.drewN | (refine Gr.setCell ?_ (by first | (simp;done) | (simp;omega)) _) | (refine Gr.trans ?_ (by assumption))))⟩
set_option maxHeartbeats 800000 in
theorem silence_no {G:List Nat} {E:Nat→Addr} (s:Srv) (w:World) (hE:EAt G E w) (i0:9 ∈ G) (h:parOk s = false) :
 Calls Tryz.prog 199 #[.agg #[.int .i64 s.k,.int .i64 s.q,.int .i64 s.t]] w fun e w' => e = .returned (.tuple #[.int .i64 0,(Value.iface 384 (.pointer (some (E 9))))])∧Gr w w':=by
 have hof:=fun w hE => of_no (G:=G) (E:=E) s w hE i0 h
 replace h:=Lib.hid h;replace hof:=Lib.hid hof;go_enter Tryz.func199,Tryz.ntmps199;go_wp2_with fail;refine (hof.out _ (hE.gr ((Gr.refl w).alloc _))).mono ?_;rintro e wa ⟨rfl,ga⟩;obtain ⟨ca,fa,sa⟩:=ga.cells;try simp only [size_drewN] at ca fa sa
 try simp only [World.size_alloc] at ca fa sa
 try simp only [World.size_drew] at ca fa sa
 try simp only [World.size_setCell] at ca fa sa
 have za0:w.heap.size < wa.heap.size:=by omega
 have ya0:w.heap.size≤wa.heap.size:=by omega
 have ka0:=fun o => ca (w.heap.size) o (by omega)
 have ja0:=fun o => fa (w.heap.size) o (by omega)
 go_wp2_with fail;go_ret2;exact ⟨rfl,(by repeat (first | exact Gr.refl _ | apply Gr.alloc | apply Gr.drew | apply Gr.drewN | (refine Gr.setCell ?_ (by first | (simp;done) | (simp;omega)) _) | (refine Gr.trans ?_ (by assumption))))⟩
set_option maxHeartbeats 800000 in
theorem slope_yes (s:Srv) (w:World) (h:parOk s = true) :
 Calls Tryz.prog 234 #[.agg #[.int .i64 s.k,.int .i64 s.q,.int .i64 s.t]] w fun e w' => e = .returned (.tuple #[.int .i64 (rowI s).q,.int .i64 (rowI s).t,.int .i64 ((rowI s).gap + (rowI s).t - (rowI s).q),.nilIface])∧Gr w w':=by
 have hof:=fun w => of_yes s w h
 obtain ⟨g0,g1,q1,qt,t2⟩:=rowI_ok h;replace h:=Lib.hid h;replace hof:=Lib.hid hof;go_enter Tryz.func234,Tryz.ntmps234;go_wp2_with fail;refine (hof.out _).mono ?_;rintro e wa ⟨rfl,ga⟩;obtain ⟨ca,fa,sa⟩:=ga.cells;try simp only [size_drewN] at ca fa sa
 try simp only [World.size_alloc] at ca fa sa
 try simp only [World.size_drew] at ca fa sa
 try simp only [World.size_setCell] at ca fa sa
 have za0:w.heap.size < wa.heap.size:=by omega
 have ya0:w.heap.size≤wa.heap.size:=by omega
 have ka0:=fun o => ca (w.heap.size) o (by omega)
 have ja0:=fun o => fa (w.heap.size) o (by omega)
 go_wp2_with fail;go_quiet (fail);go_wp2_with fail;refine bodyPost_ret (v:=.tuple #[.int .i64 (rowI s).q,.int .i64 (rowI s).t,.int .i64 ((rowI s).gap + (rowI s).t - (rowI s).q),.nilIface]) (by simp [results,Tryz.results234,go_sem, *]) rfl ⟨rfl,(by repeat (first | exact Gr.refl _ | apply Gr.alloc | apply Gr.drew | apply Gr.drewN | (refine Gr.setCell ?_ (by first | (simp;done) | (simp;omega)) _) | (refine Gr.trans ?_ (by assumption))))⟩
end Go.Proofs.YtdfelohjdkcpkaaGreatDoor
