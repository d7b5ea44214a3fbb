/- Demand, in plain numbers: what servers and tasks ask for. Nothing of the program is named here. -/
import Derived.Test.YtdfelohjdkcpkaaGreatDoorK1
namespace Go.Proofs.YtdfelohjdkcpkaaGreatDoor
open Go.RowKit
def askedI (s:Srv) (l:Int):Int:=if s.k = 3 then l / s.t * s.q + min s.q (l % s.t) else l / s.t * s.q
def upI (a b:Int):Int:=(a + b - 1) / b
def reqI (s:Srv) (l:Int):Int:=if s.k = 3∧0 < l then upI l s.t * s.q + s.q else upI l s.t * s.q
def sumI {α:Type} (f:α→Int) (l:List α):Int:=l.foldl (fun n s => n + f s) 0
theorem sumI_snoc {α:Type} (f:α→Int) (l:List α) (s:α):sumI f (l ++ [s]) = sumI f l + f s:=by unfold sumI;rw [List.foldl_append];rfl
theorem sumI_cons {α:Type} (f:α→Int) (l:List α) (s:α):sumI f (s :: l) = f s + sumI f l:=by
 have:∀ (l:List α) (n:Int),l.foldl (fun n s => n + f s) n = n + sumI f l:=by
  intro l;induction l with
  | nil => intro n;simp [sumI]
  | cons x r ih => intro n;rw [List.foldl_cons,ih,show sumI f (x :: r) = r.foldl (fun n s => n + f s) (0 + f x) from rfl,ih];omega
 rw [show sumI f (s :: l) = l.foldl (fun n s => n + f s) (0 + f s) from rfl,this];omega
theorem sumI_bd {α:Type} (f:α→Int) (l:List α) (b:Int) (h:∀ s ∈ l,0≤f s∧f s≤b):0≤sumI f l∧sumI f l≤l.length * b:=by
 induction l with
 | nil => exact ⟨Int.le_refl _,by simp [sumI]⟩
 | cons s r ih =>
  rw [sumI_cons];have:=h s (List.mem_cons_self ..);have:=ih (fun x hx => h x (List.mem_cons_of_mem _ hx));have e:((s :: r).length:Int) * b = r.length * b + b:=by rw [List.length_cons];push_cast;rw [Int.add_mul,Int.one_mul]
  rw [e];omega
def LenOk (l:Int):Prop:=0≤l∧l≤1099511627776
def Leg (s:Srv):Prop:=1≤s.k∧s.k≤3∧1≤s.q∧s.q≤s.t∧s.t≤256
theorem quo_mul_le {l q t:Int} (hl:0≤l) (hq:0≤q) (ht:1≤t) (h:q≤t):0≤l / t∧0≤l / t * q∧l / t * q≤l:=by
 have h0:0≤l / t:=Int.ediv_nonneg hl (by omega);refine ⟨h0,Int.mul_nonneg h0 hq,?_⟩;have h1:l / t * q≤l / t * t:=Int.mul_le_mul_of_nonneg_left h h0;have h2:=Int.ediv_mul_le l (show t ≠ 0 by omega);omega
theorem up_mul_le {l q t:Int} (hl:0≤l) (hq:0≤q) (ht:1≤t) (h:q≤t):0≤upI l t∧0≤upI l t * q∧upI l t * q≤l + t - 1:=by
 unfold upI;have:=quo_mul_le (l:=l + t - 1) (by omega) hq ht h;exact this
theorem asked_bd {s:Srv} {l:Int} (hs:Leg s) (hl:LenOk l):0≤askedI s l∧askedI s l≤1099511627776 + 256:=by
 obtain ⟨_,_,h3,h4,h5⟩:=hs;obtain ⟨l1,l2⟩:=hl;have:=quo_mul_le l1 (show 0≤s.q by omega) (show 1≤s.t by omega) h4;have:=Int.emod_nonneg l (show s.t ≠ 0 by omega);unfold askedI;split <;> omega
theorem req_bd {s:Srv} {l:Int} (hs:Leg s) (hl:LenOk l):0≤reqI s l∧reqI s l≤1099511627776 + 512:=by
 obtain ⟨_,_,h3,h4,h5⟩:=hs;obtain ⟨l1,l2⟩:=hl;have:=up_mul_le l1 (show 0≤s.q by omega) (show 1≤s.t by omega) h4;unfold reqI;split <;> omega
def taskI (t:Tsk) (l:Int):Int:=if l < t.d then 0 else ((l - t.d) / t.p + 1) * t.c
def LegT (t:Tsk):Prop:=1≤t.c∧t.c≤t.d∧t.d≤t.p∧t.p≤256∧0≤t.s∧t.s≤t.c
theorem task_bd {t:Tsk} {l:Int} (ht:LegT t) (hl:LenOk l):0≤taskI t l∧taskI t l≤1099511627776 + 256:=by
 obtain ⟨h1,h2,h3,h4,h5,h6⟩:=ht;obtain ⟨l1,l2⟩:=hl;unfold taskI;split
 ·omega
 ·have:=quo_mul_le (l:=l - t.d) (q:=t.c) (t:=t.p) (by omega) (by omega) (by omega) (by omega);rw [Int.add_mul,Int.one_mul];omega
end Go.Proofs.YtdfelohjdkcpkaaGreatDoor
namespace Go.Proofs.YtdfelohjdkcpkaaGreatDoor
open Go.RowKit
def plusP (p:Int × Int) (q t:Int):Int × Int:=(p.1 * t + p.2 * q,p.2 * t)
def shareS (l:List Srv):Int × Int:=l.foldl (fun p s => plusP p s.q s.t) (0,1)
def allLeg (l:List Srv):Bool:=l.all Srv.leg
theorem shareS_snoc (l:List Srv) (s:Srv):shareS (l ++ [s]) = plusP (shareS l) s.q s.t:=by
 unfold shareS;rw [List.foldl_append];rfl
theorem allLeg_get {l:List Srv} (h:allLeg l = true) {i:Nat} {s:Srv} (hi:l[i]? = some s):s.leg = true:=List.all_eq_true.1 h _ (get_mem hi)
theorem allLeg_snoc (l:List Srv) (s:Srv):allLeg (l ++ [s]) = (allLeg l && s.leg):=by simp [allLeg]
theorem mul_bd {x a y b:Int} (hx:0≤x) (hxa:x≤a) (hy:0≤y) (hyb:y≤b):0≤x * y∧x * y≤a * b :=
 ⟨Int.mul_nonneg hx hy,Int.mul_le_mul hxa hyb hy (Int.le_trans hx hxa)⟩
def P256 (i:Nat):Int:=((256 ^ i:Nat):Int)
theorem P256_succ (i:Nat):P256 (i + 1) = P256 i * 256:=by unfold P256;rw [Nat.pow_succ];simp
theorem P256_pos (i:Nat):1≤P256 i:=by unfold P256;have:=Nat.pow_pos (n:=i) (show 0 < 256 by decide);omega
theorem P256_le {i:Nat} (h:i≤8):P256 i≤18446744073709551616:=by
 unfold P256;have:=Nat.pow_le_pow_right (show 0 < 256 by decide) h;have e:(256:Nat) ^ 8 = 18446744073709551616:=by decide
 omega
theorem plusP_bd {n d q t:Int} {i:Nat} (h:0≤n∧n≤i * P256 i∧1≤d∧d≤P256 i) (hq:1≤q∧q≤t∧t≤256) :
 0≤n * t + d * q∧n * t + d * q≤(i + 1:Nat) * P256 (i + 1)∧1≤d * t∧d * t≤P256 (i + 1)∧0≤n * t∧0≤d * q:=by
 obtain ⟨h1,h2,h3,h4⟩:=h;obtain ⟨q1,q2,q3⟩:=hq;have a1:=mul_bd h1 h2 (show 0≤t by omega) q3;have a2:=mul_bd (show 0≤d by omega) h4 (show 0≤q by omega) (show q≤256 by omega);have a3:=mul_bd (show 0≤d by omega) h4 (show 0≤t by omega) q3;have a4:1≤d * t:=by have:=Int.mul_le_mul h3 (show 1≤t by omega) (by decide) (by omega);omega
 have e:((i + 1:Nat):Int) * P256 (i + 1) = i * P256 i * 256 + P256 i * 256:=by rw [P256_succ];push_cast;rw [Int.add_mul,Int.one_mul,Int.mul_assoc]
 rw [e,P256_succ];exact ⟨by omega,by omega,a4,a3.2,a1.1,a2.1⟩
theorem shareS_bd (l:List Srv) (h:allLeg l = true) (i:Nat) (hi:i≤l.length) :
 0≤(shareS (l.take i)).1∧(shareS (l.take i)).1≤i * P256 i∧1≤(shareS (l.take i)).2∧(shareS (l.take i)).2≤P256 i:=by
 induction i with
 | zero => rw [List.take_zero];exact ⟨by decide,by decide,by decide,by decide⟩
 | succ i ih =>
  obtain ⟨s,hs⟩:=get_some l i (by omega);have hl:=(Srv.leg_iff _).1 (allLeg_get h hs);rw [take_snoc hs,shareS_snoc];have:=plusP_bd (ih (by omega)) ⟨hl.2.2.1,hl.2.2.2.1,hl.2.2.2.2⟩;exact ⟨this.1,this.2.1,this.2.2.1,this.2.2.2.1⟩
theorem share_step {n d q t:Int} {i:Nat} (hi:i < 8) (h:0≤n∧n≤i * P256 i∧1≤d∧d≤P256 i) (hq:1≤q∧q≤t∧t≤256) :
 Wide n∧Wide d∧0 < d∧0≤q∧q≤4294967296∧1≤t∧t≤4294967296∧Wide (n * t + d * q)∧Wide (d * t):=by
 have b:=plusP_bd h hq;have p8:=P256_le (show i + 1≤8 by omega);have p7:=P256_le (show i≤8 by omega);have p0:=P256_pos i;have p1:=P256_pos (i + 1);have m1:=(mul_bd (show (0:Int)≤(i:Int) by omega) (show (i:Int)≤8 by omega) (show 0≤P256 i by omega) p7).2;have m2:=(mul_bd (show (0:Int)≤((i + 1:Nat):Int) by omega) (show ((i + 1:Nat):Int)≤8 by omega) (show 0≤P256 (i + 1) by omega) p8).2;obtain ⟨b1,b2,b3,b4,b5,b6⟩:=b;obtain ⟨h1,h2,h3,h4⟩:=h;unfold Wide;refine ⟨⟨h1,by omega⟩,⟨by omega,by omega⟩,by omega,by omega,by omega,by omega,by omega,⟨b1,by omega⟩,⟨by omega,by omega⟩⟩
set_option maxHeartbeats 400000 in
theorem nothing_any (w:World) :
 Calls Tryz.prog 232 #[] w fun e w' => e = .returned (.agg #[.int .u64 0,.int .u64 0,.int .u64 0,.int .u64 1])∧Gr w w':=by
 go_enter Tryz.func232,Tryz.ntmps232;go_wp2_with fail;refine (of_any 1 _).mono ?_;rintro e wa ⟨rfl,ga⟩;obtain ⟨ca,fa,sa⟩:=ga.cells;try simp only [size_drewN] at ca fa sa
 try simp only [World.size_alloc] at ca fa sa
 try simp only [World.size_drew] at ca fa sa
 try simp only [World.size_setCell] at ca fa sa
 have za0:w.heap.size < wa.heap.size:=by omega
 have ya0:w.heap.size≤wa.heap.size:=by omega
 have ka0:=fun o => ca (w.heap.size) o (by omega)
 have ja0:=fun o => fa (w.heap.size) o (by omega)
 go_wp2_with fail;refine bodyPost_ret (v:=.agg #[.int .u64 0,.int .u64 0,.int .u64 0,.int .u64 1]) (by simp [results,Tryz.results232,go_sem, *]) rfl ⟨rfl,?_⟩;repeat (first | exact Gr.refl _ | apply Gr.alloc | apply Gr.drew | apply Gr.drewN | (refine Gr.setCell ?_ (by simp) _) | (refine Gr.trans ?_ (by assumption)))
abbrev partZ:Value:=.agg #[.int .u64 0,.int .u64 0,.int .u64 0,.int .u64 0]
abbrev partV (p:Int × Int):Value:=.agg #[.int .u64 (hiW p.1),.int .u64 (loW p.1),.int .u64 (hiW p.2),.int .u64 (loW p.2)]
set_option maxHeartbeats 800000 in
theorem servers_no {G:List Nat} {E:Nat→Addr} (a:Option Addr) (l:List Srv) (c:Nat) (w:World) (hE:EAt G E w) (i0:9 ∈ G) (hl:SrvsAt w a l) (hm:l.length≤maxLen) (h:allLeg l = false) :
 Calls Tryz.prog 200 #[.slice a l.length c] w fun e w' => e = .returned (.tuple #[partZ,(Value.iface 384 (.pointer (some (E 9))))])∧Gr w w':=by
 unfold maxLen at hm;go_enter Tryz.func200,Tryz.ntmps200;go_wp2_with fail;go_loopw [12] (fun i wr => ∃ k:Nat,k≤l.length∧allLeg (l.take k) = true∧i = .int .i64 k∧Gr (w.alloc (.cells #[.int .u64 0,.int .u64 0,.int .u64 0,.int .u64 0] 195)) wr) (fun i _ => l.length - (intOf i).toNat);case atStart => exact ⟨0,Nat.zero_le _,rfl,rfl,Gr.refl _⟩
 case round =>
  obtain ⟨k,hk,hal,rfl,hg⟩:=hrel;by_cases hlt:k < l.length
  ·obtain ⟨s,hs⟩:=get_some l k hlt;have hgw:Gr w wr:=((Gr.refl _).alloc _).trans hg;obtain ⟨b,off,rfl,hb,h0,h1,h2⟩:=(hl.gr hgw) k s hs;have hE':=(hE.gr hgw).gr ((Gr.refl _).alloc (.cells #[.int .i64 s.k,.int .i64 s.q,.int .i64 s.t] 29));have zw:w.heap.size < wr.heap.size:=by have:=hg.size;simp at this;omega
   have yw:w.heap.size≤wr.heap.size:=by omega
   obtain ⟨cw,fw,_⟩:=hg.cells;simp only [World.size_alloc] at cw fw;cases hleg:s.leg
   ·have hleg:=Lib.hid hleg;go_wp2_with fail;refine (checkServer_no s.k s.q s.t _ hE' i0 hleg.out).mono ?_;rintro e wa ⟨rfl,ga⟩;obtain ⟨ca,fa,sa⟩:=ga.cells;try simp only [size_drewN] at ca fa sa
    try simp only [World.size_alloc] at ca fa sa
    try simp only [World.size_drew] at ca fa sa
    try simp only [World.size_setCell] at ca fa sa
    have za0:w.heap.size < wa.heap.size:=by omega
    have ya0:w.heap.size≤wa.heap.size:=by omega
    have ka0:=fun o => ca (w.heap.size) o (by omega)
    have ja0:=fun o => fa (w.heap.size) o (by omega)
    go_wp2_with fail;refine bodyPost_ret (v:=.tuple #[partZ,(Value.iface 384 (.pointer (some (E 9))))]) (by simp (maxDischargeDepth:=8) [results,Tryz.results200,go_sem, *]) rfl ⟨rfl,?_⟩;repeat (first | exact Gr.refl _ | apply Gr.alloc | apply Gr.drew | apply Gr.drewN | (refine Gr.setCell ?_ (by simp) _) | (refine Gr.trans ?_ (by assumption)))
   ·have hleg:=Lib.hid hleg;go_wp2_with fail;refine (checkServer_yes s.k s.q s.t _ hleg.out).mono ?_;rintro e wa ⟨rfl,ga⟩;obtain ⟨ca,fa,sa⟩:=ga.cells;try simp only [size_drewN] at ca fa sa
    try simp only [World.size_alloc] at ca fa sa
    try simp only [World.size_drew] at ca fa sa
    try simp only [World.size_setCell] at ca fa sa
    have za0:w.heap.size < wa.heap.size:=by omega
    have ya0:w.heap.size≤wa.heap.size:=by omega
    have ka0:=fun o => ca (w.heap.size) o (by omega)
    have ja0:=fun o => fa (w.heap.size) o (by omega)
    go_wp2_with fail;go_roundw;case rel => exact ⟨k + 1,by omega,by rw [take_snoc hs,allLeg_snoc,hal,hleg.out];rfl,by go_num,(hg.alloc _).trans ga⟩
    case measure => simp [intOf];omega
  ·have:l.take k = l:=List.take_of_length_le (by omega);rw [this,h] at hal;cases hal
set_option maxHeartbeats 800000 in
theorem servers_full {G:List Nat} {E:Nat→Addr} (a:Option Addr) (l:List Srv) (c:Nat) (w:World) (hE:EAt G E w) (i3:6 ∈ G) (hl:SrvsAt w a l) (hm:l.length≤maxLen) (h:allLeg l = true) (h8:8 < l.length) :
 Calls Tryz.prog 200 #[.slice a l.length c] w fun e w' => e = .returned (.tuple #[partZ,(Value.iface 384 (.pointer (some (E 6))))])∧Gr w w':=by
 unfold maxLen at hm;go_enter Tryz.func200,Tryz.ntmps200;go_wp2_with fail;go_loopw [12] (fun i wr => ∃ k:Nat,k≤l.length∧i = .int .i64 k∧Gr (w.alloc (.cells #[.int .u64 0,.int .u64 0,.int .u64 0,.int .u64 0] 195)) wr) (fun i _ => l.length - (intOf i).toNat);case atStart => exact ⟨0,Nat.zero_le _,rfl,Gr.refl _⟩
 case round =>
  obtain ⟨k,hk,rfl,hg⟩:=hrel;have hgw:Gr w wr:=((Gr.refl _).alloc _).trans hg;have zw:w.heap.size < wr.heap.size:=by have:=hg.size;simp at this;omega
  have yw:w.heap.size≤wr.heap.size:=by omega
  obtain ⟨cw,fw,_⟩:=hg.cells;simp only [World.size_alloc] at cw fw;by_cases hlt:k < l.length
  ·obtain ⟨s,hs⟩:=get_some l k hlt;obtain ⟨b,off,rfl,hb,h0,h1,h2⟩:=(hl.gr hgw) k s hs;go_wp2_with fail;refine (checkServer_yes s.k s.q s.t _ (allLeg_get h hs)).mono ?_;rintro e wa ⟨rfl,ga⟩;obtain ⟨ca,fa,sa⟩:=ga.cells;try simp only [size_drewN] at ca fa sa
   try simp only [World.size_alloc] at ca fa sa
   try simp only [World.size_drew] at ca fa sa
   try simp only [World.size_setCell] at ca fa sa
   have za0:w.heap.size < wa.heap.size:=by omega
   have ya0:w.heap.size≤wa.heap.size:=by omega
   have ka0:=fun o => ca (w.heap.size) o (by omega)
   have ja0:=fun o => fa (w.heap.size) o (by omega)
   go_wp2_with fail;go_roundw;case rel => exact ⟨k + 1,by omega,by go_num,(hg.alloc _).trans ga⟩
   case measure => simp [intOf];omega
  ·have hE':=hE.gr hgw;have hc:=hE'.c0 i3;have hx:w.heap.size ≠ 6:=by have:=hE.lt 6 i3;omega
   go_wp2_with fail;go_region;go_wp2_with fail;refine bodyPost_ret (v:=.tuple #[partZ,(Value.iface 384 (.pointer (some (E 6))))]) (by simp (maxDischargeDepth:=8) [results,Tryz.results200,go_sem, *]) rfl ⟨rfl,?_⟩;repeat (first | exact Gr.refl _ | apply Gr.alloc | apply Gr.drew | apply Gr.drewN | (refine Gr.setCell ?_ (by simp) _) | (refine Gr.trans ?_ (by assumption)))
set_option maxHeartbeats 1600000 in
theorem servers_yes (a:Option Addr) (l:List Srv) (c:Nat) (w:World) (hl:SrvsAt w a l) (h:allLeg l = true) (h8:l.length≤8) :
 Calls Tryz.prog 200 #[.slice a l.length c] w fun e w' => e = .returned (.tuple #[partV (shareS l),.nilIface])∧Gr w w':=by
 go_enter Tryz.func200,Tryz.ntmps200;go_wp2_with fail;go_loopw [12] (fun i wr => ∃ k:Nat,k≤l.length∧i = .int .i64 k∧Gr (w.alloc (.cells #[.int .u64 0,.int .u64 0,.int .u64 0,.int .u64 0] 195)) wr) (fun i _ => l.length - (intOf i).toNat);case atStart => exact ⟨0,Nat.zero_le _,rfl,Gr.refl _⟩
 case round =>
  obtain ⟨k,hk,rfl,hg⟩:=hrel;have hgw:Gr w wr:=((Gr.refl _).alloc _).trans hg;have zw:w.heap.size < wr.heap.size:=by have:=hg.size;simp at this;omega
  have yw:w.heap.size≤wr.heap.size:=by omega
  obtain ⟨cw,fw,_⟩:=hg.cells;simp only [World.size_alloc] at cw fw;by_cases hlt:k < l.length
  ·obtain ⟨s,hs⟩:=get_some l k hlt;obtain ⟨b,off,rfl,hb,h0,h1,h2⟩:=(hl.gr hgw) k s hs;go_wp2_with fail;refine (checkServer_yes s.k s.q s.t _ (allLeg_get h hs)).mono ?_;rintro e wa ⟨rfl,ga⟩;obtain ⟨ca,fa,sa⟩:=ga.cells;try simp only [size_drewN] at ca fa sa
   try simp only [World.size_alloc] at ca fa sa
   try simp only [World.size_drew] at ca fa sa
   try simp only [World.size_setCell] at ca fa sa
   have za0:w.heap.size < wa.heap.size:=by omega
   have ya0:w.heap.size≤wa.heap.size:=by omega
   have ka0:=fun o => ca (w.heap.size) o (by omega)
   have ja0:=fun o => fa (w.heap.size) o (by omega)
   go_wp2_with fail;go_roundw;case rel => exact ⟨k + 1,by omega,by go_num,(hg.alloc _).trans ga⟩
   case measure => simp [intOf];omega
  ·go_wp2_with fail;refine (nothing_any _).mono ?_;rintro e wb ⟨rfl,gb⟩;obtain ⟨cb,fb,sb⟩:=gb.cells;try simp only [size_drewN] at cb fb sb
   try simp only [World.size_alloc] at cb fb sb
   try simp only [World.size_drew] at cb fb sb
   try simp only [World.size_setCell] at cb fb sb
   have zb0:w.heap.size < wb.heap.size:=by omega
   have yb0:w.heap.size≤wb.heap.size:=by omega
   have kb0:=fun o => cb (w.heap.size) o (by omega)
   have jb0:=fun o => fb (w.heap.size) o (by omega)
   go_wp2_with fail;obtain ⟨wo,rfl⟩:∃ wo:World,wo = wr:=⟨_,rfl⟩
   have gb0:Gr w wb:=hgw.trans gb;go_loopw [31] (fun i wx => ∃ j:Nat,j≤l.length∧i = .int .i64 j∧Gr wb wx∧wb.heap.size < wx.heap.size∧(∀ o,wx.frozen? ⟨wb.heap.size,o,none⟩ = false)∧wx.cell? ⟨wb.heap.size,0,none⟩ = some (.int .u64 (hiW (shareS (l.take j)).1))∧wx.cell? ⟨wb.heap.size,1,none⟩ = some (.int .u64 (loW (shareS (l.take j)).1))∧wx.cell? ⟨wb.heap.size,2,none⟩ = some (.int .u64 (hiW (shareS (l.take j)).2))∧wx.cell? ⟨wb.heap.size,3,none⟩ = some (.int .u64 (loW (shareS (l.take j)).2))) (fun i _ => l.length - (intOf i).toNat);case atStart => exact ⟨0,Nat.zero_le _,rfl,(Gr.refl _).alloc _,by simp,by simp [go_sem],by simp [go_sem];rfl,by simp [go_sem];rfl,by simp [go_sem];rfl,by simp [go_sem];rfl⟩
   case round =>
    obtain ⟨j,hj,rfl,gx,zx,fx,x0,x1,x2,x3⟩:=hrel;have hgx:Gr w wr:=gb0.trans gx;obtain ⟨cx,fx',_⟩:=gx.cells;have zx0:w.heap.size < wr.heap.size:=by omega
    have bd:=shareS_bd l h j hj;by_cases hlt2:j < l.length
    ·obtain ⟨s,hs⟩:=get_some l j hlt2;obtain ⟨b,off,rfl,hb,h0,h1,h2⟩:=(hl.gr hgx) j s hs;have hleg:=(Srv.leg_iff _).1 (allLeg_get h hs);obtain ⟨s1,s2,s3,s4,s5,s6,s7,s8,s9⟩:=share_step (by omega) bd ⟨hleg.2.2.1,hleg.2.2.2.1,hleg.2.2.2.2⟩;have hsn:shareS (l.take (j + 1)) = plusP (shareS (l.take j)) s.q s.t:=by rw [take_snoc hs,shareS_snoc]
     have hsn:=Lib.hid hsn;generalize shareS (l.take j) = p at *;obtain ⟨n,d⟩:=p;dsimp only at s1 s2 s3 s4 s5 s6 s7 s8 s9 x0 x1 x2 x3;clear bd;go_wp2_with fail;refine (plus_any n d s.q s.t _ s1 s2 s3 s4 s5 s6 s7 s8 s9).mono ?_;rintro e wp ⟨rfl,gp⟩;obtain ⟨cp,fp,sp⟩:=gp.cells;try simp only [size_drewN] at cp fp sp
     try simp only [World.size_alloc] at cp fp sp
     try simp only [World.size_drew] at cp fp sp
     try simp only [World.size_setCell] at cp fp sp
     have zp0:w.heap.size < wp.heap.size:=by omega
     have yp0:w.heap.size≤wp.heap.size:=by omega
     have kp0:=fun o => cp (w.heap.size) o (by omega)
     have jp0:=fun o => fp (w.heap.size) o (by omega)
     have zp1:wb.heap.size < wp.heap.size:=by omega
     have yp1:wb.heap.size≤wp.heap.size:=by omega
     have kp1:=fun o => cp (wb.heap.size) o (by omega)
     have jp1:=fun o => fp (wb.heap.size) o (by omega)
     go_wp2_with fail;go_roundw;case rel =>
      refine ⟨j + 1,by omega,by go_num,?_,by simp;omega,fun o => by simp [go_sem, *],?_,?_,?_,?_⟩
      ·have:=(gx.alloc (.cells #[.int .i64 s.k,.int .i64 s.q,.int .i64 s.t] 29)).trans gp;repeat (first | exact this | (refine Gr.setCell ?_ (by simp) _))
      all_goals (rw [hsn.out];simp (maxDischargeDepth:=8) [go_sem,plusP, *])
     case measure => simp [intOf];omega
    ·have hj':j = l.length:=by omega
     subst hj';rw [List.take_length] at x0 x1 x2 x3;go_wp2_with fail;refine bodyPost_ret (v:=.tuple #[partV (shareS l),.nilIface]) (by simp (maxDischargeDepth:=8) [results,Tryz.results200,go_sem, *]) rfl ⟨rfl,?_⟩;repeat (first | exact Gr.refl _ | apply Gr.alloc | apply Gr.drew | apply Gr.drewN | (refine Gr.setCell ?_ (by simp) _) | (refine Gr.trans ?_ (by assumption)))
end Go.Proofs.YtdfelohjdkcpkaaGreatDoor
namespace Go.Proofs.YtdfelohjdkcpkaaGreatDoor
open Go.RowKit
set_option maxHeartbeats 400000 in
theorem asked_any (s:Srv) (l:Int) (w:World) (hs:Leg s) (hl:LenOk l) :
 Calls Tryz.prog 240 #[.agg #[.int .i64 s.k,.int .i64 s.q,.int .i64 s.t],.int .i64 l] w fun e w' => e = .returned (.int .i64 (askedI s l))∧Gr w w':=by
 have hb:=asked_bd hs hl;obtain ⟨h1,h2,h3,h4,h5⟩:=hs;obtain ⟨l1,l2⟩:=hl;have hq:=quo_mul_le l1 (show 0≤s.q by omega) (show 1≤s.t by omega) h4;obtain ⟨q0,q1,q2⟩:=hq;have m0:=Int.emod_nonneg l (show s.t ≠ 0 by omega);have m1:=Int.emod_lt_of_pos l (show 0 < s.t by omega);have t1:1≤s.t:=by omega
 unfold askedI at hb ⊢;by_cases hk:s.k = 3
 ·rw [if_pos hk] at hb ⊢;have hk':(s.k == 3) = true:=by simpa using hk
  clear hk;go_enter Tryz.func240,Tryz.ntmps240;go_wp2_with fail;go_quiet (fail);go_wp2_with fail;go_quiet (fail);go_wp2_with fail;all_goals
   go_ret;refine ⟨ret1 (by rw [Int.min_def];split <;> omega),?_⟩;repeat (first | exact Gr.refl _ | apply Gr.alloc | apply Gr.drew | apply Gr.drewN | (refine Gr.setCell ?_ (by simp) _) | (refine Gr.trans ?_ (by assumption)))
 ·rw [if_neg hk] at hb ⊢;have hk':(s.k == 3) = false:=by simpa using hk
  clear hk;go_enter Tryz.func240,Tryz.ntmps240;go_wp2_with fail;go_quiet (fail);go_wp2_with fail;go_ret;refine ⟨rfl,?_⟩;repeat (first | exact Gr.refl _ | apply Gr.alloc | apply Gr.drew | apply Gr.drewN | (refine Gr.setCell ?_ (by simp) _) | (refine Gr.trans ?_ (by assumption)))
set_option maxHeartbeats 400000 in
theorem up_any (a b:Int) (w:World) (ha:0≤a) (ha':a≤1099511627776) (hb:1≤b) (hb':b≤256) :
 Calls Tryz.prog 266 #[.int .i64 a,.int .i64 b] w fun e w' => e = .returned (.int .i64 (upI a b))∧w = w':=by
 unfold upI;go_enter Tryz.func266,Tryz.ntmps266;go_wp2;go_ret;exact ⟨rfl,rfl⟩
set_option maxHeartbeats 400000 in
theorem requested_any (s:Srv) (l:Int) (w:World) (hs:Leg s) (hl:LenOk l) :
 Calls Tryz.prog 242 #[.agg #[.int .i64 s.k,.int .i64 s.q,.int .i64 s.t],.int .i64 l] w fun e w' => e = .returned (.int .i64 (reqI s l))∧Gr w w':=by
 obtain ⟨h1,h2,h3,h4,h5⟩:=hs;obtain ⟨l1,l2⟩:=hl;obtain ⟨q0,q1,q2⟩:=up_mul_le l1 (show 0≤s.q by omega) (show 1≤s.t by omega) h4;have t1:1≤s.t:=by omega
 unfold reqI;have r1:=GrW.cell (w:=w.alloc (.cells #[.int .i64 s.k,.int .i64 s.q,.int .i64 s.t] 29)) (b:=w.heap.size) (o:=1) (v:=.int .i64 s.q) (by simp [go_sem]);have r2:=GrW.cell (w:=w.alloc (.cells #[.int .i64 s.k,.int .i64 s.q,.int .i64 s.t] 29)) (b:=w.heap.size) (o:=2) (v:=.int .i64 s.t) (by simp [go_sem]);by_cases hk:s.k = 3
 ·have hk':(s.k == 3) = true:=by simpa using hk
  by_cases h0:0 < l
  ·rw [if_pos ⟨hk,h0⟩];clear hk;go_enter Tryz.func242,Tryz.ntmps242;go_wp2_with fail;refine wp_region_grows (by kernel_rfl) (by kernel_rfl) ?_;repeat (any_goals (first | go_big_quiet_step (first | (go_at_call 266;exact Calls.grows_same (up_any _ _ _ l1 l2 t1 h5))) | quiet_step (first | (go_at_call 266;exact Calls.grows_same (up_any _ _ _ l1 l2 t1 h5)))))
   refine wpQuiet_nil ?_;intro wf hwq;have gf:=GrW.of hwq;clear hwq;obtain ⟨cf,ff,sf⟩:=gf.cells;try simp only [size_drewN] at cf ff sf
   try simp only [World.size_alloc] at cf ff sf
   try simp only [World.size_drew] at cf ff sf
   try simp only [World.size_setCell] at cf ff sf
   have zf0:w.heap.size < wf.heap.size:=by omega
   have yf0:w.heap.size≤wf.heap.size:=by omega
   have kf0:=fun o => cf (w.heap.size) o (by omega)
   have jf0:=fun o => ff (w.heap.size) o (by omega)
   go_wp2_with fail;go_ret;refine ⟨rfl,?_⟩;repeat (first | exact Gr.refl _ | apply Gr.alloc | apply Gr.drew | apply Gr.drewN | (refine Gr.setCell ?_ (by simp) _) | (refine Gr.trans ?_ (by assumption)))
  ·rw [if_neg (fun h => h0 h.2)];clear hk;go_enter Tryz.func242,Tryz.ntmps242;go_wp2_with fail;refine wp_region_grows (by kernel_rfl) (by kernel_rfl) ?_;repeat (any_goals (first | go_big_quiet_step (first | (go_at_call 266;exact Calls.grows_same (up_any _ _ _ l1 l2 t1 h5))) | quiet_step (first | (go_at_call 266;exact Calls.grows_same (up_any _ _ _ l1 l2 t1 h5)))))
   refine wpQuiet_nil ?_;intro wf hwq;have gf:=GrW.of hwq;clear hwq;obtain ⟨cf,ff,sf⟩:=gf.cells;try simp only [size_drewN] at cf ff sf
   try simp only [World.size_alloc] at cf ff sf
   try simp only [World.size_drew] at cf ff sf
   try simp only [World.size_setCell] at cf ff sf
   have zf0:w.heap.size < wf.heap.size:=by omega
   have yf0:w.heap.size≤wf.heap.size:=by omega
   have kf0:=fun o => cf (w.heap.size) o (by omega)
   have jf0:=fun o => ff (w.heap.size) o (by omega)
   go_wp2_with fail;go_ret;refine ⟨rfl,?_⟩;repeat (first | exact Gr.refl _ | apply Gr.alloc | apply Gr.drew | apply Gr.drewN | (refine Gr.setCell ?_ (by simp) _) | (refine Gr.trans ?_ (by assumption)))
 ·rw [if_neg (fun h => hk h.1)];have hk':(s.k == 3) = false:=by simpa using hk
  clear hk;go_enter Tryz.func242,Tryz.ntmps242;go_wp2_with fail;refine wp_region_grows (by kernel_rfl) (by kernel_rfl) ?_;repeat (any_goals (first | go_big_quiet_step (first | (go_at_call 266;exact Calls.grows_same (up_any _ _ _ l1 l2 t1 h5))) | quiet_step (first | (go_at_call 266;exact Calls.grows_same (up_any _ _ _ l1 l2 t1 h5)))))
  refine wpQuiet_nil ?_;intro wf hwq;have gf:=GrW.of hwq;clear hwq;obtain ⟨cf,ff,sf⟩:=gf.cells;try simp only [size_drewN] at cf ff sf
  try simp only [World.size_alloc] at cf ff sf
  try simp only [World.size_drew] at cf ff sf
  try simp only [World.size_setCell] at cf ff sf
  have zf0:w.heap.size < wf.heap.size:=by omega
  have yf0:w.heap.size≤wf.heap.size:=by omega
  have kf0:=fun o => cf (w.heap.size) o (by omega)
  have jf0:=fun o => ff (w.heap.size) o (by omega)
  go_wp2_with fail;go_ret;refine ⟨rfl,?_⟩;repeat (first | exact Gr.refl _ | apply Gr.alloc | apply Gr.drew | apply Gr.drewN | (refine Gr.setCell ?_ (by simp) _) | (refine Gr.trans ?_ (by assumption)))
set_option maxHeartbeats 400000 in
theorem length_yes (l:Int) (w:World) (hl:LenOk l):Calls Tryz.prog 265 #[.int .i64 l] w fun e w' => e = .returned .nilIface∧w = w':=by
 obtain ⟨l1,l2⟩:=hl;go_enter Tryz.func265,Tryz.ntmps265;go_wp2;go_ret;exact ⟨rfl,rfl⟩
def chkS (l:List Srv) (n:Int):Option Nat :=
 if allLeg l = false then some 9 else if 8 < l.length then some 6 else if n < 0 ∨ 1099511627776 < n then some 1 else none
theorem chkS_none {l:List Srv} {n:Int} (h:chkS l n = none):allLeg l = true∧l.length≤8∧LenOk n:=by
 unfold chkS at h;split at h
 ·cases h
 ·split at h
  ·cases h
  ·split at h
   ·cases h
   ·rename_i h1 h2 h3;exact ⟨by simpa using h1,by omega,by unfold LenOk;omega⟩
set_option maxHeartbeats 800000 in
theorem check_yes (a:Option Addr) (l:List Srv) (c:Nat) (n:Int) (w:World) (hl:SrvsAt w a l) (h:chkS l n = none) :
 Calls Tryz.prog 239 #[.slice a l.length c,.int .i64 n] w fun e w' => e = .returned .nilIface∧Gr w w':=by
 obtain ⟨h1,h2,h3⟩:=chkS_none h;clear h;have h1:=Lib.hid h1;go_enter Tryz.func239,Tryz.ntmps239;go_wp2_with fail;refine (servers_yes a l c _ hl h1.out h2).mono ?_;rintro e wa ⟨rfl,ga⟩;obtain ⟨ca,fa,sa⟩:=ga.cells;try simp only [size_drewN] at ca fa sa
 try simp only [World.size_alloc] at ca fa sa
 try simp only [World.size_drew] at ca fa sa
 try simp only [World.size_setCell] at ca fa sa
 go_wp2_with fail;refine (length_yes n _ h3).mono ?_;rintro e wb ⟨rfl,rfl⟩;go_wp2_with fail;go_ret;exact ⟨rfl,ga.alloc _⟩
set_option maxHeartbeats 800000 in
theorem sum_asked_yes (a:Option Addr) (l:List Srv) (c:Nat) (n:Int) (w:World) (hl:SrvsAt w a l) (h:chkS l n = none) :
 Calls Tryz.prog 241 #[.slice a l.length c,.int .i64 n,.func (.func 240) #[] #[]] w fun e w' => e = .returned (.tuple #[.int .i64 (sumI (fun s => askedI s n) l),.nilIface])∧Gr w w':=by
 obtain ⟨h1,h2,h3⟩:=chkS_none h;have h:=Lib.hid h;have h1:=Lib.hid h1;go_enter Tryz.func241,Tryz.ntmps241;go_wp2_with fail;refine (check_yes a l c n _ hl h.out).mono ?_;rintro e wa ⟨rfl,ga⟩;obtain ⟨ca,fa,sa⟩:=ga.cells;try simp only [size_drewN] at ca fa sa
 try simp only [World.size_alloc] at ca fa sa
 try simp only [World.size_drew] at ca fa sa
 try simp only [World.size_setCell] at ca fa sa
 go_wp2_with fail;go_loopw [20,9] (fun i v wr => ∃ k:Nat,k≤l.length∧i = .int .i64 k∧v = .int .i64 (sumI (fun s => askedI s n) (l.take k))∧Gr w wr) (fun i _ _ => l.length - (intOf i).toNat);case atStart => exact ⟨0,Nat.zero_le _,rfl,rfl,ga⟩
 case round =>
  obtain ⟨k,hk,rfl,rfl,hg⟩:=hrel;by_cases hlt:k < l.length
  ·obtain ⟨s,hs⟩:=get_some l k hlt;obtain ⟨b,off,rfl,hb,c0,c1,c2⟩:=(hl.gr hg) k s hs;have hleg:=(Srv.leg_iff _).1 (allLeg_get h1.out hs);have bd:=asked_bd hleg h3;have sb:=sumI_bd (fun s => askedI s n) (l.take k) (1099511627776 + 512) (fun x hx => by have:=asked_bd ((Srv.leg_iff _).1 (List.all_eq_true.1 h1.out x (List.mem_of_mem_take hx))) h3;omega);have sl:(List.take k l).length≤8:=by rw [List.length_take];omega
   have sb2:sumI (fun s => askedI s n) (l.take k)≤8 * (1099511627776 + 512):=by omega
   have sb1:=sb.1;have hsn:sumI (fun s => askedI s n) (l.take (k + 1)) = sumI (fun s => askedI s n) (l.take k) + askedI s n:=by rw [take_snoc hs,sumI_snoc]
   have hsn:=Lib.hid hsn;clear sb sl;generalize sumI (fun s => askedI s n) (l.take k) = m at *;have bd1:=bd.1;have bd2:=bd.2;clear bd;go_wp2_with fail;refine (asked_any s n _ hleg h3).mono ?_;rintro e wd ⟨rfl,gd⟩;obtain ⟨cd,fd,sd⟩:=gd.cells;try simp only [size_drewN] at cd fd sd
   try simp only [World.size_alloc] at cd fd sd
   try simp only [World.size_drew] at cd fd sd
   try simp only [World.size_setCell] at cd fd sd
   go_wp2_with fail;go_roundw;case rel => exact ⟨k + 1,by omega,by go_num,by rw [hsn.out],(hg.alloc _).trans gd⟩
   case measure => simp [intOf];omega
  ·have hall:l.take k = l:=List.take_of_length_le (by omega);rw [hall];go_wp2_with fail;go_ret2;exact ⟨rfl,hg⟩
set_option maxHeartbeats 800000 in
theorem sum_requested_yes (a:Option Addr) (l:List Srv) (c:Nat) (n:Int) (w:World) (hl:SrvsAt w a l) (h:chkS l n = none) :
 Calls Tryz.prog 241 #[.slice a l.length c,.int .i64 n,.func (.func 242) #[] #[]] w fun e w' => e = .returned (.tuple #[.int .i64 (sumI (fun s => reqI s n) l),.nilIface])∧Gr w w':=by
 obtain ⟨h1,h2,h3⟩:=chkS_none h;have h:=Lib.hid h;have h1:=Lib.hid h1;go_enter Tryz.func241,Tryz.ntmps241;go_wp2_with fail;refine (check_yes a l c n _ hl h.out).mono ?_;rintro e wa ⟨rfl,ga⟩;obtain ⟨ca,fa,sa⟩:=ga.cells;try simp only [size_drewN] at ca fa sa
 try simp only [World.size_alloc] at ca fa sa
 try simp only [World.size_drew] at ca fa sa
 try simp only [World.size_setCell] at ca fa sa
 go_wp2_with fail;go_loopw [20,9] (fun i v wr => ∃ k:Nat,k≤l.length∧i = .int .i64 k∧v = .int .i64 (sumI (fun s => reqI s n) (l.take k))∧Gr w wr) (fun i _ _ => l.length - (intOf i).toNat);case atStart => exact ⟨0,Nat.zero_le _,rfl,rfl,ga⟩
 case round =>
  obtain ⟨k,hk,rfl,rfl,hg⟩:=hrel;by_cases hlt:k < l.length
  ·obtain ⟨s,hs⟩:=get_some l k hlt;obtain ⟨b,off,rfl,hb,c0,c1,c2⟩:=(hl.gr hg) k s hs;have hleg:=(Srv.leg_iff _).1 (allLeg_get h1.out hs);have bd:=req_bd hleg h3;have sb:=sumI_bd (fun s => reqI s n) (l.take k) (1099511627776 + 512) (fun x hx => by have:=req_bd ((Srv.leg_iff _).1 (List.all_eq_true.1 h1.out x (List.mem_of_mem_take hx))) h3;omega);have sl:(List.take k l).length≤8:=by rw [List.length_take];omega
   have sb2:sumI (fun s => reqI s n) (l.take k)≤8 * (1099511627776 + 512):=by omega
   have sb1:=sb.1;have hsn:sumI (fun s => reqI s n) (l.take (k + 1)) = sumI (fun s => reqI s n) (l.take k) + reqI s n:=by rw [take_snoc hs,sumI_snoc]
   have hsn:=Lib.hid hsn;clear sb sl;generalize sumI (fun s => reqI s n) (l.take k) = m at *;have bd1:=bd.1;have bd2:=bd.2;clear bd;go_wp2_with fail;refine (requested_any s n _ hleg h3).mono ?_;rintro e wd ⟨rfl,gd⟩;obtain ⟨cd,fd,sd⟩:=gd.cells;try simp only [size_drewN] at cd fd sd
   try simp only [World.size_alloc] at cd fd sd
   try simp only [World.size_drew] at cd fd sd
   try simp only [World.size_setCell] at cd fd sd
   go_wp2_with fail;go_roundw;case rel => exact ⟨k + 1,by omega,by go_num,by rw [hsn.out],(hg.alloc _).trans gd⟩
   case measure => simp [intOf];omega
  ·have hall:l.take k = l:=List.take_of_length_le (by omega);rw [hall];go_wp2_with fail;go_ret2;exact ⟨rfl,hg⟩
end Go.Proofs.YtdfelohjdkcpkaaGreatDoor
namespace Go.Proofs.YtdfelohjdkcpkaaGreatDoor
open Go.RowKit
set_option maxHeartbeats 400000 in
theorem dservers_yes (a:Option Addr) (l:List Srv) (c:Nat) (n:Int) (w:World) (hl:SrvsAt w a l) (h:chkS l n = none) :
 Calls Tryz.prog 205 #[.slice a l.length c,.int .i64 n] w fun e w' => e = .returned (.tuple #[.int .i64 (sumI (fun s => askedI s n) l),.nilIface])∧Gr w w':=by
 have h:=Lib.hid h;go_enter Tryz.func205,Tryz.ntmps205;go_wp2_with fail;refine (sum_asked_yes a l c n _ hl h.out).mono ?_;rintro e wa ⟨rfl,ga⟩;obtain ⟨ca,fa,sa⟩:=ga.cells;try simp only [size_drewN] at ca fa sa
 try simp only [World.size_alloc] at ca fa sa
 try simp only [World.size_drew] at ca fa sa
 try simp only [World.size_setCell] at ca fa sa
 go_wp2_with fail;go_ret2;exact ⟨rfl,ga⟩
set_option maxHeartbeats 400000 in
theorem drequests_yes (a:Option Addr) (l:List Srv) (c:Nat) (n:Int) (w:World) (hl:SrvsAt w a l) (h:chkS l n = none) :
 Calls Tryz.prog 208 #[.slice a l.length c,.int .i64 n] w fun e w' => e = .returned (.tuple #[.int .i64 (sumI (fun s => reqI s n) l),.nilIface])∧Gr w w':=by
 have h:=Lib.hid h;go_enter Tryz.func208,Tryz.ntmps208;go_wp2_with fail;refine (sum_requested_yes a l c n _ hl h.out).mono ?_;rintro e wa ⟨rfl,ga⟩;obtain ⟨ca,fa,sa⟩:=ga.cells;try simp only [size_drewN] at ca fa sa
 try simp only [World.size_alloc] at ca fa sa
 try simp only [World.size_drew] at ca fa sa
 try simp only [World.size_setCell] at ca fa sa
 go_wp2_with fail;go_ret2;exact ⟨rfl,ga⟩
end Go.Proofs.YtdfelohjdkcpkaaGreatDoor
namespace Go.Proofs.YtdfelohjdkcpkaaGreatDoor
open Go.RowKit
theorem floor_step {x t:Int} (ht:1≤t):x / t = (x - t) / t + 1:=by
 have:=Int.add_mul_ediv_right (x - t) 1 (show t ≠ 0 by omega);rw [Int.one_mul,Int.sub_add_cancel] at this;exact this
theorem floor_cut {x t n:Int} (ht:1≤t):x / t = n + (x - n * t) / t:=by
 have:=Int.add_mul_ediv_right (x - n * t) n (show t ≠ 0 by omega);rw [Int.sub_add_cancel] at this;omega
set_option maxHeartbeats 800000 in
theorem floor_any (l t:Int) (w:World) (hl:LenOk l) (ht:1≤t) (ht':t≤256) :
 Calls Tryz.prog 217 #[.int .i64 l,.int .i64 t] w fun e w' => e = .returned (.int .i64 (l / t))∧w = w':=by
 obtain ⟨l1,l2⟩:=hl;have q0:=(quo_mul_le l1 (show (0:Int)≤1 by decide) ht ht).1;have q1:l / t≤l:=Int.ediv_le_self _ l1;by_cases h:100 * t < l
 ·have c0:=quo_mul_le (l:=l - 50 * t) (q:=t) (by omega) (by omega) ht (Int.le_refl _);obtain ⟨c1,c2,c3⟩:=c0;have c4:(l - 50 * t) / t≤l - 50 * t:=Int.ediv_le_self _ (by omega);have hcut:=floor_cut (x:=l) (n:=(l - 50 * t) / t) ht;replace hcut:=Lib.hid hcut;go_enter Tryz.func217,Tryz.ntmps217;go_wp2_with fail;go_loop [0,5] (fun a b => ∃ x n:Int,0≤x∧x≤l∧0≤n∧n≤l∧l / t = n + x / t∧a = .int .i64 x∧b = .int .i64 n) (fun a _ => (intOf a).toNat);case atStart => exact ⟨_,_,by omega,by omega,c1,by omega,hcut.out,rfl,rfl⟩
  case round =>
   obtain ⟨x,n,x1,x2,n1,n2,he,rfl,rfl⟩:=hrel;by_cases hx:t≤x
   ·have hs:=floor_step (x:=x) ht;have p0:0≤(x - t) / t:=Int.ediv_nonneg (by omega) (by omega);have p1:n + 1≤l:=by omega
    have he2:l / t = n + 1 + (x - t) / t:=by omega
    clear hs he;replace he2:=Lib.hid he2;go_wp2_with fail;go_round;case rel => exact ⟨_,_,by omega,by omega,by omega,p1,he2.out,rfl,rfl⟩
    case measure => simp [intOf];omega
   ·have hz:=Int.ediv_eq_zero_of_lt x1 (show x < t by omega);have he2:n = l / t:=by omega
    clear hz he;replace he2:=Lib.hid he2;go_wp2_with fail;go_ret;exact ⟨ret1 he2.out,rfl⟩
 ·go_enter Tryz.func217,Tryz.ntmps217;go_wp2_with fail;go_loop [0,5] (fun a b => ∃ x n:Int,0≤x∧x≤l∧0≤n∧n≤l∧l / t = n + x / t∧a = .int .i64 x∧b = .int .i64 n) (fun a _ => (intOf a).toNat);case atStart => exact ⟨l,0,by omega,by omega,by omega,by omega,by omega,rfl,rfl⟩
  case round =>
   obtain ⟨x,n,x1,x2,n1,n2,he,rfl,rfl⟩:=hrel;by_cases hx:t≤x
   ·have hs:=floor_step (x:=x) ht;have p0:0≤(x - t) / t:=Int.ediv_nonneg (by omega) (by omega);have p1:n + 1≤l:=by omega
    have he2:l / t = n + 1 + (x - t) / t:=by omega
    clear hs he;replace he2:=Lib.hid he2;go_wp2_with fail;go_round;case rel => exact ⟨_,_,by omega,by omega,by omega,p1,he2.out,rfl,rfl⟩
    case measure => simp [intOf];omega
   ·have hz:=Int.ediv_eq_zero_of_lt x1 (show x < t by omega);have he2:n = l / t:=by omega
    clear hz he;replace he2:=Lib.hid he2;go_wp2_with fail;go_ret;exact ⟨ret1 he2.out,rfl⟩
theorem emod_eq (l t:Int):l % t = l - l / t * t:=by rw [Int.emod_def,Int.mul_comm]
set_option maxHeartbeats 800000 in
theorem rserver_any (s:Srv) (l:Int) (w:World) (hs:Leg s) (hl:LenOk l) :
 Calls Tryz.prog 216 #[.agg #[.int .i64 s.k,.int .i64 s.q,.int .i64 s.t],.int .i64 l] w fun e w' => e = .returned (.int .i64 (askedI s l))∧Gr w w':=by
 have hb:=asked_bd hs hl;obtain ⟨h1,h2,h3,h4,h5⟩:=hs;have ll:=hl;obtain ⟨l1,l2⟩:=hl;obtain ⟨q0,q1,q2⟩:=quo_mul_le l1 (show 0≤s.q by omega) (show 1≤s.t by omega) h4;obtain ⟨q3,q4,q5⟩:=quo_mul_le l1 (show 0≤s.t by omega) (show 1≤s.t by omega) (Int.le_refl _);have m0:=Int.emod_nonneg l (show s.t ≠ 0 by omega);have m1:=Int.emod_lt_of_pos l (show 0 < s.t by omega);have t1:1≤s.t:=by omega
 unfold askedI at hb ⊢;rw [emod_eq] at m0 m1 hb ⊢;have q6:l / s.t≤l:=Int.ediv_le_self _ l1;by_cases hk:s.k = 3
 ·rw [if_pos hk] at hb ⊢;have hk':(s.k != 3) = false:=by simp [hk]
  clear hk;by_cases hr:s.q < l - l / s.t * s.t
  ·go_enter Tryz.func216,Tryz.ntmps216;go_wp2_with fail;refine (floor_any l s.t _ ll t1 h5).mono ?_;rintro e wa ⟨rfl,rfl⟩;go_wp2_with fail;go_ret;refine ⟨ret1 (by omega),?_⟩;repeat (first | exact Gr.refl _ | apply Gr.alloc | apply Gr.drew | apply Gr.drewN | (refine Gr.setCell ?_ (by simp) _) | (refine Gr.trans ?_ (by assumption)))
  ·go_enter Tryz.func216,Tryz.ntmps216;go_wp2_with fail;refine (floor_any l s.t _ ll t1 h5).mono ?_;rintro e wa ⟨rfl,rfl⟩;go_wp2_with fail;go_ret;refine ⟨ret1 (by omega),?_⟩;repeat (first | exact Gr.refl _ | apply Gr.alloc | apply Gr.drew | apply Gr.drewN | (refine Gr.setCell ?_ (by simp) _) | (refine Gr.trans ?_ (by assumption)))
 ·rw [if_neg hk] at hb ⊢;have hk':(s.k != 3) = true:=by simpa using hk
  clear hk;go_enter Tryz.func216,Tryz.ntmps216;go_wp2_with fail;refine (floor_any l s.t _ ll t1 h5).mono ?_;rintro e wa ⟨rfl,rfl⟩;go_wp2_with fail;go_ret;refine ⟨rfl,?_⟩;repeat (first | exact Gr.refl _ | apply Gr.alloc | apply Gr.drew | apply Gr.drewN | (refine Gr.setCell ?_ (by simp) _) | (refine Gr.trans ?_ (by assumption)))
theorem up_floor {l t:Int} (ht:1≤t):upI l t = if l / t * t < l then l / t + 1 else l / t:=by
 unfold upI;have e:=Int.emod_add_mul_ediv l t;have e0:=emod_eq l t;have m0:=Int.emod_nonneg l (show t ≠ 0 by omega);have m1:=Int.emod_lt_of_pos l (show 0 < t by omega);have hc:=floor_cut (x:=l + t - 1) (n:=l / t) ht;rw [show l + t - 1 - l / t * t = l % t + t - 1 by omega] at hc;split
 ·have:(l % t + t - 1) / t = 1:=by
   have:=floor_step (x:=l % t + t - 1) ht;rw [this,show l % t + t - 1 - t = l % t - 1 by omega,Int.ediv_eq_zero_of_lt (by omega) (by omega)];rfl
  omega
 ·have:(l % t + t - 1) / t = 0:=Int.ediv_eq_zero_of_lt (by omega) (by omega);omega
set_option maxHeartbeats 800000 in
theorem rrequest_any (s:Srv) (l:Int) (w:World) (hs:Leg s) (hl:LenOk l) :
 Calls Tryz.prog 174 #[.agg #[.int .i64 s.k,.int .i64 s.q,.int .i64 s.t],.int .i64 l] w fun e w' => e = .returned (.int .i64 (reqI s l))∧Gr w w':=by
 have hb:=req_bd hs hl;obtain ⟨h1,h2,h3,h4,h5⟩:=hs;have ll:=hl;obtain ⟨l1,l2⟩:=hl;obtain ⟨q3,q4,q5⟩:=quo_mul_le l1 (show 0≤s.t by omega) (show 1≤s.t by omega) (Int.le_refl _);obtain ⟨q0,q1,q2⟩:=quo_mul_le l1 (show 0≤s.q by omega) (show 1≤s.t by omega) h4;have t1:1≤s.t:=by omega
 have q6:l / s.t≤l:=Int.ediv_le_self _ l1;have b1:(l / s.t + 1) * s.q = l / s.t * s.q + s.q:=by rw [Int.add_mul,Int.one_mul]
 have b2:(l / s.t + 1 + 1) * s.q = l / s.t * s.q + s.q + s.q:=by rw [Int.add_mul,Int.add_mul,Int.one_mul]
 have b3:0≤(l / s.t + 1) * s.q∧(l / s.t + 1) * s.q≤1099511627776 + 256:=by omega
 have b4:0≤(l / s.t + 1 + 1) * s.q∧(l / s.t + 1 + 1) * s.q≤1099511627776 + 512:=by omega
 obtain ⟨b5,b6⟩:=b3;obtain ⟨b7,b8⟩:=b4;have hf:=fun w => floor_any l s.t w ll t1 h5
 unfold reqI;rw [up_floor t1];clear hb;generalize l / s.t = n at *;replace b1:=Lib.hid b1;replace b2:=Lib.hid b2;replace hf:=Lib.hid hf;by_cases hr:n * s.t < l
 ·rw [if_pos hr];by_cases hk:s.k = 3
  ·have hk':(s.k == 3) = true:=by simpa using hk
   by_cases h0:0 < l
   ·rw [if_pos ⟨hk,h0⟩];clear hk;go_enter Tryz.func174,Tryz.ntmps174;go_wp2_with fail;refine (hf.out _).mono ?_;rintro e wa ⟨rfl,rfl⟩;go_wp2_with fail;go_ret;refine ⟨ret1 (by rw [b2.out,b1.out]),?_⟩;repeat (first | exact Gr.refl _ | apply Gr.alloc | apply Gr.drew | apply Gr.drewN | (refine Gr.setCell ?_ (by simp) _) | (refine Gr.trans ?_ (by assumption)))
   ·exfalso;omega
  ·rw [if_neg (fun h => hk h.1)];have hk':(s.k == 3) = false:=by simpa using hk
   clear hk;go_enter Tryz.func174,Tryz.ntmps174;go_wp2_with fail;refine (hf.out _).mono ?_;rintro e wa ⟨rfl,rfl⟩;go_wp2_with fail;go_ret;refine ⟨rfl,?_⟩;repeat (first | exact Gr.refl _ | apply Gr.alloc | apply Gr.drew | apply Gr.drewN | (refine Gr.setCell ?_ (by simp) _) | (refine Gr.trans ?_ (by assumption)))
 ·rw [if_neg hr];by_cases hk:s.k = 3
  ·have hk':(s.k == 3) = true:=by simpa using hk
   by_cases h0:0 < l
   ·rw [if_pos ⟨hk,h0⟩];clear hk;go_enter Tryz.func174,Tryz.ntmps174;go_wp2_with fail;refine (hf.out _).mono ?_;rintro e wa ⟨rfl,rfl⟩;go_wp2_with fail;go_ret;refine ⟨ret1 b1.out,?_⟩;repeat (first | exact Gr.refl _ | apply Gr.alloc | apply Gr.drew | apply Gr.drewN | (refine Gr.setCell ?_ (by simp) _) | (refine Gr.trans ?_ (by assumption)))
   ·rw [if_neg (fun h => h0 h.2)];clear hk;go_enter Tryz.func174,Tryz.ntmps174;go_wp2_with fail;refine (hf.out _).mono ?_;rintro e wa ⟨rfl,rfl⟩;go_wp2_with fail;go_ret;refine ⟨rfl,?_⟩;repeat (first | exact Gr.refl _ | apply Gr.alloc | apply Gr.drew | apply Gr.drewN | (refine Gr.setCell ?_ (by simp) _) | (refine Gr.trans ?_ (by assumption)))
  ·rw [if_neg (fun h => hk h.1)];have hk':(s.k == 3) = false:=by simpa using hk
   clear hk;go_enter Tryz.func174,Tryz.ntmps174;go_wp2_with fail;refine (hf.out _).mono ?_;rintro e wa ⟨rfl,rfl⟩;go_wp2_with fail;go_ret;refine ⟨rfl,?_⟩;repeat (first | exact Gr.refl _ | apply Gr.alloc | apply Gr.drew | apply Gr.drewN | (refine Gr.setCell ?_ (by simp) _) | (refine Gr.trans ?_ (by assumption)))
set_option maxHeartbeats 800000 in
theorem rservers11_any (a:Option Addr) (l:List Srv) (c:Nat) (n:Int) (w:World) (hl:SrvsAt w a l) (h:allLeg l = true) (h8:l.length≤8) (h3:LenOk n) :
 Calls Tryz.prog 172 #[.slice a l.length c,.int .i64 n] w fun e w' => e = .returned (.int .i64 (sumI (fun s => askedI s n) l))∧Gr w w':=by
 replace h:=Lib.hid h;go_enter Tryz.func172,Tryz.ntmps172;go_wp2_with fail;go_loopw [10,5] (fun i v wr => ∃ k:Nat,k≤l.length∧i = .int .i64 k∧v = .int .i64 (sumI (fun s => askedI s n) (l.take k))∧Gr w wr) (fun i _ _ => l.length - (intOf i).toNat);case atStart => exact ⟨0,Nat.zero_le _,rfl,rfl,Gr.refl _⟩
 case round =>
  obtain ⟨k,hk,rfl,rfl,hg⟩:=hrel;by_cases hlt:k < l.length
  ·obtain ⟨s,hs⟩:=get_some l k hlt;obtain ⟨b,off,rfl,hb,c0,c1,c2⟩:=(hl.gr hg) k s hs;have hleg:=(Srv.leg_iff _).1 (allLeg_get h.out hs);have bd:=asked_bd hleg h3;have sb:=sumI_bd (fun s => askedI s n) (l.take k) (1099511627776 + 512) (fun x hx => by have:=asked_bd ((Srv.leg_iff _).1 (List.all_eq_true.1 h.out x (List.mem_of_mem_take hx))) h3;omega);have sl:(List.take k l).length≤8:=by rw [List.length_take];omega
   have sb2:sumI (fun s => askedI s n) (l.take k)≤8 * (1099511627776 + 512):=by omega
   have sb1:=sb.1;have hsn:sumI (fun s => askedI s n) (l.take (k + 1)) = sumI (fun s => askedI s n) (l.take k) + askedI s n:=by rw [take_snoc hs,sumI_snoc]
   replace hsn:=Lib.hid hsn;clear sb sl;generalize sumI (fun s => askedI s n) (l.take k) = m at *;obtain ⟨bd1,bd2⟩:=bd;go_wp2_with fail;refine (rserver_any s n _ hleg h3).mono ?_;rintro e wd ⟨rfl,gd⟩;obtain ⟨cd,fd,sd⟩:=gd.cells;try simp only [size_drewN] at cd fd sd
   try simp only [World.size_alloc] at cd fd sd
   try simp only [World.size_drew] at cd fd sd
   try simp only [World.size_setCell] at cd fd sd
   go_wp2_with fail;go_roundw;case rel => exact ⟨k + 1,by omega,by go_num,by rw [hsn.out],(hg.alloc _).trans gd⟩
   case measure => simp [intOf];omega
  ·have hall:l.take k = l:=List.take_of_length_le (by omega);rw [hall];go_wp2_with fail;go_ret;exact ⟨rfl,hg⟩
set_option maxHeartbeats 800000 in
theorem rrequests11_any (a:Option Addr) (l:List Srv) (c:Nat) (n:Int) (w:World) (hl:SrvsAt w a l) (h:allLeg l = true) (h8:l.length≤8) (h3:LenOk n) :
 Calls Tryz.prog 102 #[.slice a l.length c,.int .i64 n] w fun e w' => e = .returned (.int .i64 (sumI (fun s => reqI s n) l))∧Gr w w':=by
 replace h:=Lib.hid h;go_enter Tryz.func102,Tryz.ntmps102;go_wp2_with fail;go_loopw [10,5] (fun i v wr => ∃ k:Nat,k≤l.length∧i = .int .i64 k∧v = .int .i64 (sumI (fun s => reqI s n) (l.take k))∧Gr w wr) (fun i _ _ => l.length - (intOf i).toNat);case atStart => exact ⟨0,Nat.zero_le _,rfl,rfl,Gr.refl _⟩
 case round =>
  obtain ⟨k,hk,rfl,rfl,hg⟩:=hrel;by_cases hlt:k < l.length
  ·obtain ⟨s,hs⟩:=get_some l k hlt;obtain ⟨b,off,rfl,hb,c0,c1,c2⟩:=(hl.gr hg) k s hs;have hleg:=(Srv.leg_iff _).1 (allLeg_get h.out hs);have bd:=req_bd hleg h3;have sb:=sumI_bd (fun s => reqI s n) (l.take k) (1099511627776 + 512) (fun x hx => by have:=req_bd ((Srv.leg_iff _).1 (List.all_eq_true.1 h.out x (List.mem_of_mem_take hx))) h3;omega);have sl:(List.take k l).length≤8:=by rw [List.length_take];omega
   have sb2:sumI (fun s => reqI s n) (l.take k)≤8 * (1099511627776 + 512):=by omega
   have sb1:=sb.1;have hsn:sumI (fun s => reqI s n) (l.take (k + 1)) = sumI (fun s => reqI s n) (l.take k) + reqI s n:=by rw [take_snoc hs,sumI_snoc]
   replace hsn:=Lib.hid hsn;clear sb sl;generalize sumI (fun s => reqI s n) (l.take k) = m at *;obtain ⟨bd1,bd2⟩:=bd;go_wp2_with fail;refine (rrequest_any s n _ hleg h3).mono ?_;rintro e wd ⟨rfl,gd⟩;obtain ⟨cd,fd,sd⟩:=gd.cells;try simp only [size_drewN] at cd fd sd
   try simp only [World.size_alloc] at cd fd sd
   try simp only [World.size_drew] at cd fd sd
   try simp only [World.size_setCell] at cd fd sd
   go_wp2_with fail;go_roundw;case rel => exact ⟨k + 1,by omega,by go_num,by rw [hsn.out],(hg.alloc _).trans gd⟩
   case measure => simp [intOf];omega
  ·have hall:l.take k = l:=List.take_of_length_le (by omega);rw [hall];go_wp2_with fail;go_ret;exact ⟨rfl,hg⟩
end Go.Proofs.YtdfelohjdkcpkaaGreatDoor
