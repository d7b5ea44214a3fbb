/- Package demand: the servers. -/
import Derived.Test.YtdfelohjdkcpkaaGreatDoorKK4
set_option maxRecDepth 100000
set_option maxHeartbeats 1600000
namespace Go.Proofs.YtdfelohjdkcpkaaGreatDoor
open Go.RowKit
theorem F8 (s:Ao) (l:Int) (w:World) (hs:OE s) (hl:A2 l) :
 Calls Tryz.prog 240 #[.agg #[.int .i64 s.k,.int .i64 s.q,.int .i64 s.t],.int .i64 l] w fun e w' => e = .returned (.int .i64 (AX s l))∧Gr w w':=by
 have hb:=Cu hs hl;obtain ⟨h1,h2,h3,h4,h5⟩:=hs;obtain ⟨l1,l2⟩:=hl;have hq:=A4 l1 (show 0≤s.q by omega) (show 1≤s.t by omega) h4;obtain ⟨q0,q1,q2⟩:=hq;have m0:=Int.emod_nonneg l (show s.t ≠ 0 by omega);have m1:=Int.emod_lt_of_pos l (show 0 < s.t by omega);have t1:1≤s.t:=by omega
 unfold AX at hb ⊢;by_cases hk:s.k = 3
 ·rw [if_pos hk] at hb ⊢;have hk':(s.k == 3) = true:=by simpa using hk
  clear hk;go_enter Tryz.func240,Tryz.ntmps240;go_wp2_with fail;go_quiet (fail);go_wp2_with fail;go_quiet (fail);go_wp2_with fail;all_goals
   go_ret;refine ⟨Hb (by rw [Int.min_def];split <;> omega),?_⟩;repeat (first | exact Gr.refl _ | apply Gr.alloc | apply Gr.drew | apply Gr.drewN | (refine Gr.setCell ?_ (by simp) _) | (refine Gr.trans ?_ (by assumption)))
 ·rw [if_neg hk] at hb ⊢;have hk':(s.k == 3) = false:=by simpa using hk
  clear hk;go_enter Tryz.func240,Tryz.ntmps240;go_wp2_with fail;go_quiet (fail);go_wp2_with fail;go_ret;refine ⟨rfl,?_⟩;repeat (first | exact Gr.refl _ | apply Gr.alloc | apply Gr.drew | apply Gr.drewN | (refine Gr.setCell ?_ (by simp) _) | (refine Gr.trans ?_ (by assumption)))
theorem En (a b:Int) (w:World) (ha:0≤a) (ha':a≤1099511627776) (hb:1≤b) (hb':b≤256) :
 Calls Tryz.prog 266 #[.int .i64 a,.int .i64 b] w fun e w' => e = .returned (.int .i64 (JB a b))∧w = w':=by
 unfold JB;go_enter Tryz.func266,Tryz.ntmps266;go_wp2;go_ret;exact ⟨rfl,rfl⟩
theorem HY (s:Ao) (l:Int) (w:World) (hs:OE s) (hl:A2 l) :
 Calls Tryz.prog 242 #[.agg #[.int .i64 s.k,.int .i64 s.q,.int .i64 s.t],.int .i64 l] w fun e w' => e = .returned (.int .i64 (BI s l))∧Gr w w':=by
 obtain ⟨h1,h2,h3,h4,h5⟩:=hs;obtain ⟨l1,l2⟩:=hl;obtain ⟨q0,q1,q2⟩:=DC l1 (show 0≤s.q by omega) (show 1≤s.t by omega) h4;have t1:1≤s.t:=by omega
 unfold BI;have r1:=AB.cell (w:=w.alloc (.cells #[.int .i64 s.k,.int .i64 s.q,.int .i64 s.t] 29)) (b:=w.heap.size) (o:=1) (v:=.int .i64 s.q) (by simp [go_sem]);have r2:=AB.cell (w:=w.alloc (.cells #[.int .i64 s.k,.int .i64 s.q,.int .i64 s.t] 29)) (b:=w.heap.size) (o:=2) (v:=.int .i64 s.t) (by simp [go_sem]);by_cases hk:s.k = 3
 ·have hk':(s.k == 3) = true:=by simpa using hk
  by_cases h0:0 < l
  ·rw [if_pos ⟨hk,h0⟩];clear hk;go_enter Tryz.func242,Tryz.ntmps242;go_wp2_with fail;refine Ap (by kernel_rfl) (by kernel_rfl) ?_;repeat (any_goals (first | go_big_quiet_step (first | (go_at_call 266;exact Calls.grows_same (En _ _ _ l1 l2 t1 h5))) | quiet_step (first | (go_at_call 266;exact Calls.grows_same (En _ _ _ l1 l2 t1 h5)))))
   refine wpQuiet_nil ?_;intro wf hwq;have gf:=AB.of hwq;clear hwq;obtain ⟨cf,ff,sf⟩:=gf.cells;try simp only [Aa] at cf ff sf
   try simp only [zL] at cf ff sf
   try simp only [zD] at cf ff sf
   try simp only [zS] at cf ff sf
   have zf0:w.heap.size < wf.heap.size:=by omega
   have yf0:w.heap.size≤wf.heap.size:=by omega
   have kf0:=fun o => cf (w.heap.size) o (by omega)
   have jf0:=fun o => ff (w.heap.size) o (by omega)
   go_wp2_with fail;go_ret;refine ⟨rfl,?_⟩;repeat (first | exact Gr.refl _ | apply Gr.alloc | apply Gr.drew | apply Gr.drewN | (refine Gr.setCell ?_ (by simp) _) | (refine Gr.trans ?_ (by assumption)))
  ·rw [if_neg (fun h => h0 h.2)];clear hk;go_enter Tryz.func242,Tryz.ntmps242;go_wp2_with fail;refine Ap (by kernel_rfl) (by kernel_rfl) ?_;repeat (any_goals (first | go_big_quiet_step (first | (go_at_call 266;exact Calls.grows_same (En _ _ _ l1 l2 t1 h5))) | quiet_step (first | (go_at_call 266;exact Calls.grows_same (En _ _ _ l1 l2 t1 h5)))))
   refine wpQuiet_nil ?_;intro wf hwq;have gf:=AB.of hwq;clear hwq;obtain ⟨cf,ff,sf⟩:=gf.cells;try simp only [Aa] at cf ff sf
   try simp only [zL] at cf ff sf
   try simp only [zD] at cf ff sf
   try simp only [zS] at cf ff sf
   have zf0:w.heap.size < wf.heap.size:=by omega
   have yf0:w.heap.size≤wf.heap.size:=by omega
   have kf0:=fun o => cf (w.heap.size) o (by omega)
   have jf0:=fun o => ff (w.heap.size) o (by omega)
   go_wp2_with fail;go_ret;refine ⟨rfl,?_⟩;repeat (first | exact Gr.refl _ | apply Gr.alloc | apply Gr.drew | apply Gr.drewN | (refine Gr.setCell ?_ (by simp) _) | (refine Gr.trans ?_ (by assumption)))
 ·rw [if_neg (fun h => hk h.1)];have hk':(s.k == 3) = false:=by simpa using hk
  clear hk;go_enter Tryz.func242,Tryz.ntmps242;go_wp2_with fail;refine Ap (by kernel_rfl) (by kernel_rfl) ?_;repeat (any_goals (first | go_big_quiet_step (first | (go_at_call 266;exact Calls.grows_same (En _ _ _ l1 l2 t1 h5))) | quiet_step (first | (go_at_call 266;exact Calls.grows_same (En _ _ _ l1 l2 t1 h5)))))
  refine wpQuiet_nil ?_;intro wf hwq;have gf:=AB.of hwq;clear hwq;obtain ⟨cf,ff,sf⟩:=gf.cells;try simp only [Aa] at cf ff sf
  try simp only [zL] at cf ff sf
  try simp only [zD] at cf ff sf
  try simp only [zS] at cf ff sf
  have zf0:w.heap.size < wf.heap.size:=by omega
  have yf0:w.heap.size≤wf.heap.size:=by omega
  have kf0:=fun o => cf (w.heap.size) o (by omega)
  have jf0:=fun o => ff (w.heap.size) o (by omega)
  go_wp2_with fail;go_ret;refine ⟨rfl,?_⟩;repeat (first | exact Gr.refl _ | apply Gr.alloc | apply Gr.drew | apply Gr.drewN | (refine Gr.setCell ?_ (by simp) _) | (refine Gr.trans ?_ (by assumption)))
theorem Fd (l:Int) (w:World) (hl:A2 l):Calls Tryz.prog 265 #[.int .i64 l] w fun e w' => e = .returned .nilIface∧w = w':=by
 obtain ⟨l1,l2⟩:=hl;go_enter Tryz.func265,Tryz.ntmps265;go_wp2;go_ret;exact ⟨rfl,rfl⟩
def FF (l:List Ao) (n:Int):Option Nat :=
 if AY l = false then some 9 else if 8 < l.length then some 6 else if n < 0 ∨ 1099511627776 < n then some 1 else none
theorem F5 {l:List Ao} {n:Int} (h:FF l n = none):AY l = true∧l.length≤8∧A2 n:=by
 unfold FF at h;split at h
 ·cases h
 ·split at h
  ·cases h
  ·split at h
   ·cases h
   ·rename_i h1 h2 h3;exact ⟨by simpa using h1,by omega,by unfold A2;omega⟩
theorem EV (a:Option Addr) (l:List Ao) (c:Nat) (n:Int) (w:World) (hl:AJ w a l) (h:FF l n = none) :
 Calls Tryz.prog 239 #[.slice a l.length c,.int .i64 n] w fun e w' => e = .returned .nilIface∧Gr w w':=by
 obtain ⟨h1,h2,h3⟩:=F5 h;clear h;have h1:=Lib.hid h1;go_enter Tryz.func239,Tryz.ntmps239;go_wp2_with fail;refine (CV a l c _ hl h1.out h2).mono ?_;rintro e wa ⟨rfl,ga⟩;obtain ⟨ca,fa,sa⟩:=ga.cells;try simp only [Aa] at ca fa sa
 try simp only [zL] at ca fa sa
 try simp only [zD] at ca fa sa
 try simp only [zS] at ca fa sa
 go_wp2_with fail;refine (Fd n _ h3).mono ?_;rintro e wb ⟨rfl,rfl⟩;go_wp2_with fail;go_ret;exact ⟨rfl,ga.alloc _⟩
theorem HU (a:Option Addr) (l:List Ao) (c:Nat) (n:Int) (w:World) (hl:AJ w a l) (h:FF l n = none) :
 Calls Tryz.prog 241 #[.slice a l.length c,.int .i64 n,.func (.func 240) #[] #[]] w fun e w' => e = .returned (.tuple #[.int .i64 (A0 (fun s => AX s n) l),.nilIface])∧Gr w w':=by
 obtain ⟨h1,h2,h3⟩:=F5 h;have h:=Lib.hid h;have h1:=Lib.hid h1;go_enter Tryz.func241,Tryz.ntmps241;go_wp2_with fail;refine (EV a l c n _ hl h.out).mono ?_;rintro e wa ⟨rfl,ga⟩;obtain ⟨ca,fa,sa⟩:=ga.cells;try simp only [Aa] at ca fa sa
 try simp only [zL] at ca fa sa
 try simp only [zD] at ca fa sa
 try simp only [zS] at ca fa sa
 go_wp2_with fail;go_loopw [20,9] (fun i v wr => ∃ k:Nat,k≤l.length∧i = .int .i64 k∧v = .int .i64 (A0 (fun s => AX s n) (l.take k))∧Gr w wr) (fun i _ _ => l.length - (intOf i).toNat);case atStart => exact ⟨0,Nat.zero_le _,rfl,rfl,ga⟩
 case round =>
  obtain ⟨k,hk,rfl,rfl,hg⟩:=hrel;by_cases hlt:k < l.length
  ·obtain ⟨s,hs⟩:=Ac l k hlt;obtain ⟨b,off,rfl,hb,c0,c1,c2⟩:=(hl.gr hg) k s hs;have hleg:=(Ao.leg_iff _).1 (Bp h1.out hs);have bd:=Cu hleg h3;have sb:=C4 (fun s => AX s n) (l.take k) (1099511627776 + 512) (fun x hx => by have:=Cu ((Ao.leg_iff _).1 (List.all_eq_true.1 h1.out x (List.mem_of_mem_take hx))) h3;omega);have sl:(List.take k l).length≤8:=by rw [List.length_take];omega
   have sb2:A0 (fun s => AX s n) (l.take k)≤8 * (1099511627776 + 512):=by omega
   have sb1:=sb.1;have hsn:A0 (fun s => AX s n) (l.take (k + 1)) = A0 (fun s => AX s n) (l.take k) + AX s n:=by rw [Ae hs,A6]
   have hsn:=Lib.hid hsn;clear sb sl;generalize A0 (fun s => AX s n) (l.take k) = m at *;have bd1:=bd.1;have bd2:=bd.2;clear bd;go_wp2_with fail;refine (F8 s n _ hleg h3).mono ?_;rintro e wd ⟨rfl,gd⟩;obtain ⟨cd,fd,sd⟩:=gd.cells;try simp only [Aa] at cd fd sd
   try simp only [zL] at cd fd sd
   try simp only [zD] at cd fd sd
   try simp only [zS] at cd fd sd
   go_wp2_with fail;go_roundw;case rel => exact ⟨k + 1,by omega,by go_num,by rw [hsn.out],(hg.alloc _).trans gd⟩
   case measure => simp [intOf];omega
  ·have hall:l.take k = l:=List.take_of_length_le (by omega);rw [hall];go_wp2_with fail;go_ret2;exact ⟨rfl,hg⟩
theorem Fs (a:Option Addr) (l:List Ao) (c:Nat) (n:Int) (w:World) (hl:AJ w a l) (h:FF l n = none) :
 Calls Tryz.prog 241 #[.slice a l.length c,.int .i64 n,.func (.func 242) #[] #[]] w fun e w' => e = .returned (.tuple #[.int .i64 (A0 (fun s => BI s n) l),.nilIface])∧Gr w w':=by
 obtain ⟨h1,h2,h3⟩:=F5 h;have h:=Lib.hid h;have h1:=Lib.hid h1;go_enter Tryz.func241,Tryz.ntmps241;go_wp2_with fail;refine (EV a l c n _ hl h.out).mono ?_;rintro e wa ⟨rfl,ga⟩;obtain ⟨ca,fa,sa⟩:=ga.cells;try simp only [Aa] at ca fa sa
 try simp only [zL] at ca fa sa
 try simp only [zD] at ca fa sa
 try simp only [zS] at ca fa sa
 go_wp2_with fail;go_loopw [20,9] (fun i v wr => ∃ k:Nat,k≤l.length∧i = .int .i64 k∧v = .int .i64 (A0 (fun s => BI s n) (l.take k))∧Gr w wr) (fun i _ _ => l.length - (intOf i).toNat);case atStart => exact ⟨0,Nat.zero_le _,rfl,rfl,ga⟩
 case round =>
  obtain ⟨k,hk,rfl,rfl,hg⟩:=hrel;by_cases hlt:k < l.length
  ·obtain ⟨s,hs⟩:=Ac l k hlt;obtain ⟨b,off,rfl,hb,c0,c1,c2⟩:=(hl.gr hg) k s hs;have hleg:=(Ao.leg_iff _).1 (Bp h1.out hs);have bd:=FY hleg h3;have sb:=C4 (fun s => BI s n) (l.take k) (1099511627776 + 512) (fun x hx => by have:=FY ((Ao.leg_iff _).1 (List.all_eq_true.1 h1.out x (List.mem_of_mem_take hx))) h3;omega);have sl:(List.take k l).length≤8:=by rw [List.length_take];omega
   have sb2:A0 (fun s => BI s n) (l.take k)≤8 * (1099511627776 + 512):=by omega
   have sb1:=sb.1;have hsn:A0 (fun s => BI s n) (l.take (k + 1)) = A0 (fun s => BI s n) (l.take k) + BI s n:=by rw [Ae hs,A6]
   have hsn:=Lib.hid hsn;clear sb sl;generalize A0 (fun s => BI s n) (l.take k) = m at *;have bd1:=bd.1;have bd2:=bd.2;clear bd;go_wp2_with fail;refine (HY s n _ hleg h3).mono ?_;rintro e wd ⟨rfl,gd⟩;obtain ⟨cd,fd,sd⟩:=gd.cells;try simp only [Aa] at cd fd sd
   try simp only [zL] at cd fd sd
   try simp only [zD] at cd fd sd
   try simp only [zS] at cd fd sd
   go_wp2_with fail;go_roundw;case rel => exact ⟨k + 1,by omega,by go_num,by rw [hsn.out],(hg.alloc _).trans gd⟩
   case measure => simp [intOf];omega
  ·have hall:l.take k = l:=List.take_of_length_le (by omega);rw [hall];go_wp2_with fail;go_ret2;exact ⟨rfl,hg⟩
theorem Jo (a:Option Addr) (l:List Ao) (c:Nat) (n:Int) (w:World) (hl:AJ w a l) (h:FF l n = none) :
 Calls Tryz.prog 205 #[.slice a l.length c,.int .i64 n] w fun e w' => e = .returned (.tuple #[.int .i64 (A0 (fun s => AX s n) l),.nilIface])∧Gr w w':=by
 have h:=Lib.hid h;go_enter Tryz.func205,Tryz.ntmps205;go_wp2_with fail;refine (HU a l c n _ hl h.out).mono ?_;rintro e wa ⟨rfl,ga⟩;obtain ⟨ca,fa,sa⟩:=ga.cells;try simp only [Aa] at ca fa sa
 try simp only [zL] at ca fa sa
 try simp only [zD] at ca fa sa
 try simp only [zS] at ca fa sa
 go_wp2_with fail;go_ret2;exact ⟨rfl,ga⟩
theorem H7 (a:Option Addr) (l:List Ao) (c:Nat) (n:Int) (w:World) (hl:AJ w a l) (h:FF l n = none) :
 Calls Tryz.prog 208 #[.slice a l.length c,.int .i64 n] w fun e w' => e = .returned (.tuple #[.int .i64 (A0 (fun s => BI s n) l),.nilIface])∧Gr w w':=by
 have h:=Lib.hid h;go_enter Tryz.func208,Tryz.ntmps208;go_wp2_with fail;refine (Fs a l c n _ hl h.out).mono ?_;rintro e wa ⟨rfl,ga⟩;obtain ⟨ca,fa,sa⟩:=ga.cells;try simp only [Aa] at ca fa sa
 try simp only [zL] at ca fa sa
 try simp only [zD] at ca fa sa
 try simp only [zS] at ca fa sa
 go_wp2_with fail;go_ret2;exact ⟨rfl,ga⟩
theorem Fe {x t:Int} (ht:1≤t):x / t = (x - t) / t + 1:=by
 have:=Int.add_mul_ediv_right (x - t) 1 (show t ≠ 0 by omega);rw [Int.one_mul,Int.sub_add_cancel] at this;exact this
theorem IF {x t n:Int} (ht:1≤t):x / t = n + (x - n * t) / t:=by
 have:=Int.add_mul_ediv_right (x - n * t) n (show t ≠ 0 by omega);rw [Int.sub_add_cancel] at this;omega
theorem C9 (l t:Int) (w:World) (hl:A2 l) (ht:1≤t) (ht':t≤256) :
 Calls Tryz.prog 217 #[.int .i64 l,.int .i64 t] w fun e w' => e = .returned (.int .i64 (l / t))∧w = w':=by
 obtain ⟨l1,l2⟩:=hl;have q0:=(A4 l1 (show (0:Int)≤1 by decide) ht ht).1;have q1:l / t≤l:=Int.ediv_le_self _ l1;by_cases h:100 * t < l
 ·have c0:=A4 (l:=l - 50 * t) (q:=t) (by omega) (by omega) ht (Int.le_refl _);obtain ⟨c1,c2,c3⟩:=c0;have c4:(l - 50 * t) / t≤l - 50 * t:=Int.ediv_le_self _ (by omega);have hcut:=IF (x:=l) (n:=(l - 50 * t) / t) ht;replace hcut:=zH hcut;go_enter Tryz.func217,Tryz.ntmps217;go_wp2_with fail;go_loop [0,5] (fun a b => ∃ x n:Int,0≤x∧x≤l∧0≤n∧n≤l∧l / t = n + x / t∧a = .int .i64 x∧b = .int .i64 n) (fun a _ => (intOf a).toNat);case atStart => exact ⟨_,_,by omega,by omega,c1,by omega,hcut.out,rfl,rfl⟩
  case round =>
   obtain ⟨x,n,x1,x2,n1,n2,he,rfl,rfl⟩:=hrel;by_cases hx:t≤x
   ·have hs:=Fe (x:=x) ht;have p0:0≤(x - t) / t:=Int.ediv_nonneg (by omega) (by omega);have p1:n + 1≤l:=by omega
    have he2:l / t = n + 1 + (x - t) / t:=by omega
    clear hs he;replace he2:=zH he2;go_wp2_with fail;go_round;case rel => exact ⟨_,_,by omega,by omega,by omega,p1,he2.out,rfl,rfl⟩
    case measure => simp [intOf];omega
   ·have hz:=Int.ediv_eq_zero_of_lt x1 (show x < t by omega);have he2:n = l / t:=by omega
    clear hz he;replace he2:=zH he2;go_wp2_with fail;go_ret;exact ⟨Hb he2.out,rfl⟩
 ·go_enter Tryz.func217,Tryz.ntmps217;go_wp2_with fail;go_loop [0,5] (fun a b => ∃ x n:Int,0≤x∧x≤l∧0≤n∧n≤l∧l / t = n + x / t∧a = .int .i64 x∧b = .int .i64 n) (fun a _ => (intOf a).toNat);case atStart => exact ⟨l,0,by omega,by omega,by omega,by omega,by omega,rfl,rfl⟩
  case round =>
   obtain ⟨x,n,x1,x2,n1,n2,he,rfl,rfl⟩:=hrel;by_cases hx:t≤x
   ·have hs:=Fe (x:=x) ht;have p0:0≤(x - t) / t:=Int.ediv_nonneg (by omega) (by omega);have p1:n + 1≤l:=by omega
    have he2:l / t = n + 1 + (x - t) / t:=by omega
    clear hs he;replace he2:=zH he2;go_wp2_with fail;go_round;case rel => exact ⟨_,_,by omega,by omega,by omega,p1,he2.out,rfl,rfl⟩
    case measure => simp [intOf];omega
   ·have hz:=Int.ediv_eq_zero_of_lt x1 (show x < t by omega);have he2:n = l / t:=by omega
    clear hz he;replace he2:=zH he2;go_wp2_with fail;go_ret;exact ⟨Hb he2.out,rfl⟩
theorem L4 (l t:Int):l % t = l - l / t * t:=by rw [Int.emod_def,Int.mul_comm]
theorem JP (s:Ao) (l:Int) (w:World) (hs:OE s) (hl:A2 l) :
 Calls Tryz.prog 216 #[.agg #[.int .i64 s.k,.int .i64 s.q,.int .i64 s.t],.int .i64 l] w fun e w' => e = .returned (.int .i64 (AX s l))∧Gr w w':=by
 have hb:=Cu hs hl;obtain ⟨h1,h2,h3,h4,h5⟩:=hs;have ll:=hl;obtain ⟨l1,l2⟩:=hl;obtain ⟨q0,q1,q2⟩:=A4 l1 (show 0≤s.q by omega) (show 1≤s.t by omega) h4;obtain ⟨q3,q4,q5⟩:=A4 l1 (show 0≤s.t by omega) (show 1≤s.t by omega) (Int.le_refl _);have m0:=Int.emod_nonneg l (show s.t ≠ 0 by omega);have m1:=Int.emod_lt_of_pos l (show 0 < s.t by omega);have t1:1≤s.t:=by omega
 unfold AX at hb ⊢;rw [L4] at m0 m1 hb ⊢;have q6:l / s.t≤l:=Int.ediv_le_self _ l1;by_cases hk:s.k = 3
 ·rw [if_pos hk] at hb ⊢;have hk':(s.k != 3) = false:=by simp [hk]
  clear hk;by_cases hr:s.q < l - l / s.t * s.t
  ·go_enter Tryz.func216,Tryz.ntmps216;go_wp2_with fail;refine (C9 l s.t _ ll t1 h5).mono ?_;rintro e wa ⟨rfl,rfl⟩;go_wp2_with fail;go_ret;refine ⟨Hb (by omega),?_⟩;repeat (first | exact Gr.refl _ | apply Gr.alloc | apply Gr.drew | apply Gr.drewN | (refine Gr.setCell ?_ (by simp) _) | (refine Gr.trans ?_ (by assumption)))
  ·go_enter Tryz.func216,Tryz.ntmps216;go_wp2_with fail;refine (C9 l s.t _ ll t1 h5).mono ?_;rintro e wa ⟨rfl,rfl⟩;go_wp2_with fail;go_ret;refine ⟨Hb (by omega),?_⟩;repeat (first | exact Gr.refl _ | apply Gr.alloc | apply Gr.drew | apply Gr.drewN | (refine Gr.setCell ?_ (by simp) _) | (refine Gr.trans ?_ (by assumption)))
 ·rw [if_neg hk] at hb ⊢;have hk':(s.k != 3) = true:=by simpa using hk
  clear hk;go_enter Tryz.func216,Tryz.ntmps216;go_wp2_with fail;refine (C9 l s.t _ ll t1 h5).mono ?_;rintro e wa ⟨rfl,rfl⟩;go_wp2_with fail;go_ret;refine ⟨rfl,?_⟩;repeat (first | exact Gr.refl _ | apply Gr.alloc | apply Gr.drew | apply Gr.drewN | (refine Gr.setCell ?_ (by simp) _) | (refine Gr.trans ?_ (by assumption)))
theorem JA {l t:Int} (ht:1≤t):JB l t = if l / t * t < l then l / t + 1 else l / t:=by
 unfold JB;have e:=Int.emod_add_mul_ediv l t;have e0:=L4 l t;have m0:=Int.emod_nonneg l (show t ≠ 0 by omega);have m1:=Int.emod_lt_of_pos l (show 0 < t by omega);have hc:=IF (x:=l + t - 1) (n:=l / t) ht;rw [show l + t - 1 - l / t * t = l % t + t - 1 by omega] at hc;split
 ·have:(l % t + t - 1) / t = 1:=by
   have:=Fe (x:=l % t + t - 1) ht;rw [this,show l % t + t - 1 - t = l % t - 1 by omega,Int.ediv_eq_zero_of_lt (by omega) (by omega)];rfl
  omega
 ·have:(l % t + t - 1) / t = 0:=Int.ediv_eq_zero_of_lt (by omega) (by omega);omega
theorem I9 (s:Ao) (l:Int) (w:World) (hs:OE s) (hl:A2 l) :
 Calls Tryz.prog 174 #[.agg #[.int .i64 s.k,.int .i64 s.q,.int .i64 s.t],.int .i64 l] w fun e w' => e = .returned (.int .i64 (BI s l))∧Gr w w':=by
 have hb:=FY hs hl;obtain ⟨h1,h2,h3,h4,h5⟩:=hs;have ll:=hl;obtain ⟨l1,l2⟩:=hl;obtain ⟨q3,q4,q5⟩:=A4 l1 (show 0≤s.t by omega) (show 1≤s.t by omega) (Int.le_refl _);obtain ⟨q0,q1,q2⟩:=A4 l1 (show 0≤s.q by omega) (show 1≤s.t by omega) h4;have t1:1≤s.t:=by omega
 have q6:l / s.t≤l:=Int.ediv_le_self _ l1;have b1:(l / s.t + 1) * s.q = l / s.t * s.q + s.q:=by rw [Int.add_mul,Int.one_mul]
 have b2:(l / s.t + 1 + 1) * s.q = l / s.t * s.q + s.q + s.q:=by rw [Int.add_mul,Int.add_mul,Int.one_mul]
 have b3:0≤(l / s.t + 1) * s.q∧(l / s.t + 1) * s.q≤1099511627776 + 256:=by omega
 have b4:0≤(l / s.t + 1 + 1) * s.q∧(l / s.t + 1 + 1) * s.q≤1099511627776 + 512:=by omega
 obtain ⟨b5,b6⟩:=b3;obtain ⟨b7,b8⟩:=b4;have hf:=fun w => C9 l s.t w ll t1 h5
 unfold BI;rw [JA t1];clear hb;generalize l / s.t = n at *;refine AZ ?_ b1 b2 hf;clear b1 b2 hf;intro b1 b2 hf;by_cases hr:n * s.t < l
 ·rw [if_pos hr];by_cases hk:s.k = 3
  ·have hk':(s.k == 3) = true:=by simpa using hk
   by_cases h0:0 < l
   ·rw [if_pos ⟨hk,h0⟩];clear hk;go_enter Tryz.func174,Tryz.ntmps174;go_wp2_with fail;refine (hf.out _).mono ?_;rintro e wa ⟨rfl,rfl⟩;go_wp2_with fail;go_ret;refine ⟨Hb (by rw [b2.out,b1.out]),?_⟩;repeat (first | exact Gr.refl _ | apply Gr.alloc | apply Gr.drew | apply Gr.drewN | (refine Gr.setCell ?_ (by simp) _) | (refine Gr.trans ?_ (by assumption)))
   ·exfalso;omega
  ·rw [if_neg (fun h => hk h.1)];have hk':(s.k == 3) = false:=by simpa using hk
   clear hk;go_enter Tryz.func174,Tryz.ntmps174;go_wp2_with fail;refine (hf.out _).mono ?_;rintro e wa ⟨rfl,rfl⟩;go_wp2_with fail;go_ret;refine ⟨rfl,?_⟩;repeat (first | exact Gr.refl _ | apply Gr.alloc | apply Gr.drew | apply Gr.drewN | (refine Gr.setCell ?_ (by simp) _) | (refine Gr.trans ?_ (by assumption)))
 ·rw [if_neg hr];by_cases hk:s.k = 3
  ·have hk':(s.k == 3) = true:=by simpa using hk
   by_cases h0:0 < l
   ·rw [if_pos ⟨hk,h0⟩];clear hk;go_enter Tryz.func174,Tryz.ntmps174;go_wp2_with fail;refine (hf.out _).mono ?_;rintro e wa ⟨rfl,rfl⟩;go_wp2_with fail;go_ret;refine ⟨Hb b1.out,?_⟩;repeat (first | exact Gr.refl _ | apply Gr.alloc | apply Gr.drew | apply Gr.drewN | (refine Gr.setCell ?_ (by simp) _) | (refine Gr.trans ?_ (by assumption)))
   ·rw [if_neg (fun h => h0 h.2)];clear hk;go_enter Tryz.func174,Tryz.ntmps174;go_wp2_with fail;refine (hf.out _).mono ?_;rintro e wa ⟨rfl,rfl⟩;go_wp2_with fail;go_ret;refine ⟨rfl,?_⟩;repeat (first | exact Gr.refl _ | apply Gr.alloc | apply Gr.drew | apply Gr.drewN | (refine Gr.setCell ?_ (by simp) _) | (refine Gr.trans ?_ (by assumption)))
  ·rw [if_neg (fun h => hk h.1)];have hk':(s.k == 3) = false:=by simpa using hk
   clear hk;go_enter Tryz.func174,Tryz.ntmps174;go_wp2_with fail;refine (hf.out _).mono ?_;rintro e wa ⟨rfl,rfl⟩;go_wp2_with fail;go_ret;refine ⟨rfl,?_⟩;repeat (first | exact Gr.refl _ | apply Gr.alloc | apply Gr.drew | apply Gr.drewN | (refine Gr.setCell ?_ (by simp) _) | (refine Gr.trans ?_ (by assumption)))
theorem Et (a:Option Addr) (l:List Ao) (c:Nat) (n:Int) (w:World) (hl:AJ w a l) (h:AY l = true) (h8:l.length≤8) (h3:A2 n) :
 Calls Tryz.prog 172 #[.slice a l.length c,.int .i64 n] w fun e w' => e = .returned (.int .i64 (A0 (fun s => AX s n) l))∧Gr w w':=by
 replace h:=zH h;go_enter Tryz.func172,Tryz.ntmps172;go_wp2_with fail;go_loopw [10,5] (fun i v wr => ∃ k:Nat,k≤l.length∧i = .int .i64 k∧v = .int .i64 (A0 (fun s => AX s n) (l.take k))∧Gr w wr) (fun i _ _ => l.length - (intOf i).toNat);case atStart => exact ⟨0,Nat.zero_le _,rfl,rfl,Gr.refl _⟩
 case round =>
  obtain ⟨k,hk,rfl,rfl,hg⟩:=hrel;by_cases hlt:k < l.length
  ·obtain ⟨s,hs⟩:=Ac l k hlt;obtain ⟨b,off,rfl,hb,c0,c1,c2⟩:=(hl.gr hg) k s hs;have hleg:=(Ao.leg_iff _).1 (Bp h.out hs);have bd:=Cu hleg h3;have sb:=C4 (fun s => AX s n) (l.take k) (1099511627776 + 512) (fun x hx => by have:=Cu ((Ao.leg_iff _).1 (List.all_eq_true.1 h.out x (List.mem_of_mem_take hx))) h3;omega);have sl:(List.take k l).length≤8:=by rw [List.length_take];omega
   have sb2:A0 (fun s => AX s n) (l.take k)≤8 * (1099511627776 + 512):=by omega
   have sb1:=sb.1;have hsn:A0 (fun s => AX s n) (l.take (k + 1)) = A0 (fun s => AX s n) (l.take k) + AX s n:=by rw [Ae hs,A6]
   replace hsn:=zH hsn;clear sb sl;generalize A0 (fun s => AX s n) (l.take k) = m at *;obtain ⟨bd1,bd2⟩:=bd;go_wp2_with fail;refine (JP s n _ hleg h3).mono ?_;rintro e wd ⟨rfl,gd⟩;obtain ⟨cd,fd,sd⟩:=gd.cells;try simp only [Aa] at cd fd sd
   try simp only [zL] at cd fd sd
   try simp only [zD] at cd fd sd
   try simp only [zS] at cd fd sd
   go_wp2_with fail;go_roundw;case rel => exact ⟨k + 1,by omega,by go_num,by rw [hsn.out],(hg.alloc _).trans gd⟩
   case measure => simp [intOf];omega
  ·have hall:l.take k = l:=List.take_of_length_le (by omega);rw [hall];go_wp2_with fail;go_ret;exact ⟨rfl,hg⟩
theorem Ef (a:Option Addr) (l:List Ao) (c:Nat) (n:Int) (w:World) (hl:AJ w a l) (h:AY l = true) (h8:l.length≤8) (h3:A2 n) :
 Calls Tryz.prog 102 #[.slice a l.length c,.int .i64 n] w fun e w' => e = .returned (.int .i64 (A0 (fun s => BI s n) l))∧Gr w w':=by
 replace h:=zH h;go_enter Tryz.func102,Tryz.ntmps102;go_wp2_with fail;go_loopw [10,5] (fun i v wr => ∃ k:Nat,k≤l.length∧i = .int .i64 k∧v = .int .i64 (A0 (fun s => BI s n) (l.take k))∧Gr w wr) (fun i _ _ => l.length - (intOf i).toNat);case atStart => exact ⟨0,Nat.zero_le _,rfl,rfl,Gr.refl _⟩
 case round =>
  obtain ⟨k,hk,rfl,rfl,hg⟩:=hrel;by_cases hlt:k < l.length
  ·obtain ⟨s,hs⟩:=Ac l k hlt;obtain ⟨b,off,rfl,hb,c0,c1,c2⟩:=(hl.gr hg) k s hs;have hleg:=(Ao.leg_iff _).1 (Bp h.out hs);have bd:=FY hleg h3;have sb:=C4 (fun s => BI s n) (l.take k) (1099511627776 + 512) (fun x hx => by have:=FY ((Ao.leg_iff _).1 (List.all_eq_true.1 h.out x (List.mem_of_mem_take hx))) h3;omega);have sl:(List.take k l).length≤8:=by rw [List.length_take];omega
   have sb2:A0 (fun s => BI s n) (l.take k)≤8 * (1099511627776 + 512):=by omega
   have sb1:=sb.1;have hsn:A0 (fun s => BI s n) (l.take (k + 1)) = A0 (fun s => BI s n) (l.take k) + BI s n:=by rw [Ae hs,A6]
   replace hsn:=zH hsn;clear sb sl;generalize A0 (fun s => BI s n) (l.take k) = m at *;obtain ⟨bd1,bd2⟩:=bd;go_wp2_with fail;refine (I9 s n _ hleg h3).mono ?_;rintro e wd ⟨rfl,gd⟩;obtain ⟨cd,fd,sd⟩:=gd.cells;try simp only [Aa] at cd fd sd
   try simp only [zL] at cd fd sd
   try simp only [zD] at cd fd sd
   try simp only [zS] at cd fd sd
   go_wp2_with fail;go_roundw;case rel => exact ⟨k + 1,by omega,by go_num,by rw [hsn.out],(hg.alloc _).trans gd⟩
   case measure => simp [intOf];omega
  ·have hall:l.take k = l:=List.take_of_length_le (by omega);rw [hall];go_wp2_with fail;go_ret;exact ⟨rfl,hg⟩
abbrev EX (d:Int):List Value:=[.int .i64 d]
theorem CE (d:Int):(EX d).length = 1:=rfl
theorem Hr (d:Int):∀ u ∈ EX d,u.oneCell' = true:=by intro u hu;simp at hu;subst hu;rfl
def Dl (w:World) (a:Option Addr) (l:List Int):Prop:=Al 1 EX w a l
theorem Dl.gr {w w':World} {a:Option Addr} {l:List Int} (h:Dl w a l) (g:Gr w w'):Dl w' a l:=by
 intro i s hi;obtain ⟨b,off,ha,hb,hc⟩:=h i s hi;exact ⟨b,off,ha,Nat.lt_of_lt_of_le hb g.size,fun j u hu => by rw [g.cells.1 _ _ hb];exact hc j u hu⟩
theorem Dl.get {w:World} {a:Option Addr} {l:List Int} (h:Dl w a l) {i:Nat} {d:Int} (hd:l[i]? = some d):∃ b off,a = some ⟨b,off,none⟩∧b < w.heap.size∧w.cell? ⟨b,off + i,none⟩ = some (.int .i64 d):=by
 obtain ⟨b,off,ha,hb,hc⟩:=h i d hd;exact ⟨b,off,ha,hb,by simpa using hc 0 _ rfl⟩
theorem Tryz.infoInt:(Tryz.prog.info? 3).map (fun i => (i.zero,i.size,i.bytes)) = some (some (.int .i64 0),1,8):=by kernel_rfl
def Bc (l:List Ao) (i:Int):Int:=A0 (fun s => AX s i) l
def AN (l:List Ao):Nat→List Int
 | 0 => []
 | i + 1 => AN l i ++ if Bc l i < Bc l ((i:Int) + 1) then [(i:Int) + 1] else []
theorem IJ (l:List Ao) (h:AY l = true):Bc l 0 = 0:=by
 unfold Bc;have:∀ s ∈ l,AX s 0 = 0:=fun s hs => by
  have:=(Ao.leg_iff s).1 (List.all_eq_true.1 h s hs);unfold AX;simp;omega
 clear h;induction l with
 | nil => rfl
 | cons s r ih => rw [BD,this s (List.mem_cons_self ..),ih (fun x hx => this x (List.mem_cons_of_mem _ hx))];rfl
theorem E8 {l:List Ao} {i:Nat} (h:Bc l i < Bc l ((i:Int) + 1)):AN l (i + 1) = AN l i ++ [(i:Int) + 1]:=by rw [AN,if_pos h]
theorem Im {l:List Ao} {i:Nat} (h:¬ Bc l i < Bc l ((i:Int) + 1)):AN l (i + 1) = AN l i:=by rw [AN,if_neg h,List.append_nil]
theorem DZ (l:List Ao) (i:Nat):(AN l i).length≤i:=by
 induction i with
 | zero => exact Nat.le_refl _
 | succ i ih => rw [AN,List.length_append];split <;> simp <;> omega
theorem KU (l:List Ao) (i d:Nat):∃ r,AN l (i + d) = AN l i ++ r:=by
 induction d with
 | zero => exact ⟨[],by simp⟩
 | succ d ih =>
  obtain ⟨r,hr⟩:=ih;exact ⟨r ++ if Bc l ((i + d:Nat):Int) < Bc l (((i + d:Nat):Int) + 1) then [((i + d:Nat):Int) + 1] else [],by rw [← Nat.add_assoc,AN,hr,List.append_assoc]⟩
theorem Mk {l:List Ao} {i n:Nat} (hn:i < n) (h:Bc l i < Bc l ((i:Int) + 1)):(AN l n)[(AN l i).length]? = some ((i:Int) + 1):=by
 obtain ⟨r,hr⟩:=KU l (i + 1) (n - (i + 1));rw [show i + 1 + (n - (i + 1)) = n by omega,E8 h] at hr;rw [hr,List.append_assoc,List.getElem?_append_right (Nat.le_refl _),Nat.sub_self];rfl
theorem D9 {l:List Ao} (h:AY l = true) (h8:l.length≤8) {n:Int} (hn:A2 n):0≤Bc l n∧Bc l n≤8 * (1099511627776 + 512):=by
 have:=C4 (fun s => AX s n) l (1099511627776 + 512) (fun x hx => by have:=Cu ((Ao.leg_iff _).1 (List.all_eq_true.1 h x hx)) hn;omega);unfold Bc;omega
def Pt (l:List Ao) (N:Nat) (w:World) (e:Ending) (w':World):Prop :=
 ∃ (a:Option Addr) (c:Nat),e = .returned (.slice a (AN l N).length c)∧Dl w' a (AN l N)∧Gr w w'
theorem Ik (a:Option Addr) (l:List Ao) (c:Nat) (n:Int) (N:Nat) (w:World) (hl:AJ w a l) (h:Bm l = none) (hck:FF l 0 = none) (hal:AY l = true) (h8:l.length≤8) (hN:N = (min n 4096).toNat) (n1:-9223372036854775808≤n) (n2:n≤9223372036854775807) :
 Calls Tryz.prog 203 #[.slice a l.length c,.int .i64 n] w (Pt l N w):=by
 obtain ⟨i3,hi,hz0,hz1,hz2⟩:=info_parts Tryz.infoInt;have hm1:N≤4096:=by omega
 refine AZ ?_ hN h hck;clear hN h hck;intro hN h hck;have hz:=IJ l hal;replace hz:=zH hz;replace hal:=zH hal;have hcase:n≤4096 ∨ 4096 < n:=by omega
 rcases hcase with hq | hq
 ·go_enter Tryz.func203,Tryz.ntmps203;go_wp2_with fail;refine (EV a l c 0 _ hl hck.out).mono ?_;rintro e wa ⟨rfl,ga⟩;obtain ⟨ca,fa,sa⟩:=ga.cells;try simp only [Aa] at ca fa sa
  try simp only [zL] at ca fa sa
  try simp only [zD] at ca fa sa
  try simp only [zS] at ca fa sa
  go_wp2_with fail;go_loopw [7,5,6] (fun lv ov tv wr => ∃ i:Nat,i≤N∧lv = .int .i64 ((i:Int) + 1)∧tv = .int .i64 (Bc l i)∧wr.ownsRow w.heap.size 3 1 ov (AN l i).length ((AN l i).flatMap EX)∧Gr w wr) (fun lv _ _ _ => N + 1 - (intOf lv).toNat);case atStart => exact ⟨0,Nat.zero_le _,rfl,by rw [show ((0:Nat):Int) = 0 from rfl,hz.out],World.ownsRow_nil _ _ _ _,ga⟩
  case round =>
   obtain ⟨i,hiN,rfl,rfl,hown,hg⟩:=hrel;have bi:=D9 hal.out h8 (n:=i) ⟨by omega,by omega⟩;obtain ⟨bi1,bi2⟩:=bi;by_cases hlt:i < N
   ·have hon:A2 ((i:Int) + 1):=⟨by omega,by omega⟩
    have hle:(i:Int) + 1≤n:=by have:=hN.out;omega
    have hle2:(i:Int) + 1≤4096:=by omega
    have bj:=D9 hal.out h8 hon;obtain ⟨bj1,bj2⟩:=bj;obtain ⟨wo,rfl⟩:∃ wo:World,wo = wr:=⟨_,rfl⟩
    go_wp2_with fail;go_loopw [22,8] (fun iv v wr => ∃ k:Nat,k≤l.length∧iv = .int .i64 k∧v = .int .i64 (Bc (l.take k) ((i:Int) + 1))∧Gr wo wr) (fun iv _ _ => l.length - (intOf iv).toNat);case atStart => exact ⟨0,Nat.zero_le _,rfl,rfl,Gr.refl _⟩
    case round =>
     obtain ⟨k,hk,rfl,rfl,hgx⟩:=hrel;have hgw:Gr w wr:=hg.trans hgx;by_cases hkl:k < l.length
     ·obtain ⟨s,hs⟩:=Ac l k hkl;obtain ⟨b,off,rfl,hb,c0,c1,c2⟩:=(hl.gr hgw) k s hs;have hleg:=(Ao.leg_iff _).1 (Bp hal.out hs);have bd:=Cu hleg hon;have sb:=D9 (l:=l.take k) (List.all_eq_true.2 fun x hx => List.all_eq_true.1 hal.out x (List.mem_of_mem_take hx)) (by rw [List.length_take];omega) hon;have hsn:Bc (l.take (k + 1)) ((i:Int) + 1) = Bc (l.take k) ((i:Int) + 1) + AX s ((i:Int) + 1):=by unfold Bc;rw [Ae hs,A6]
      replace hsn:=zH hsn;generalize Bc (l.take k) ((i:Int) + 1) = m at *;obtain ⟨bd1,bd2⟩:=bd;obtain ⟨sb1,sb2⟩:=sb;go_wp2_with fail;refine (F8 s _ _ hleg hon).mono ?_;rintro e wd ⟨rfl,gd⟩;obtain ⟨cd,fd,sd⟩:=gd.cells;try simp only [Aa] at cd fd sd
      try simp only [zL] at cd fd sd
      try simp only [zD] at cd fd sd
      try simp only [zS] at cd fd sd
      go_wp2_with fail;go_roundw;case rel => exact ⟨k + 1,by omega,by go_num,by rw [hsn.out],(hgx.alloc _).trans gd⟩
      case measure => simp [intOf];omega
     ·have hall:l.take k = l:=List.take_of_length_le (by omega);rw [hall];by_cases hd:Bc l i < Bc l ((i:Int) + 1)
      ·have hst:=E8 hd;have ln:=DZ l i;have n1:(AN l i).length + ([(i:Int) + 1]:List Int).length≤maxLen:=by unfold maxLen;simp;omega
       have n2:((AN l i).length + ([(i:Int) + 1]:List Int).length) * 8≤140737488355328:=by simp;omega
       replace hst:=zH hst;have n3:w.heap.size≤wr.heap.size:=hgw.size;have hown2:=As hown hgx;clear hown;go_wp2_with (at_builtin;refine Ai (k:=1) (enc:=EX) rfl _ _ 72 rfl w.heap.size 3 i3 _ 8 Tryz.underlying72 hi hz0 hz1 hz2 rfl (by decide) CE Hr _ (AN l i) rfl (hown2.alloc _) (some ⟨wr.heap.size,0,none⟩) 1 [(i:Int) + 1] rfl (An CE wr [(i:Int) + 1] _ _ rfl) (fun h => by cases h) n1 n2 (BG n3 _) ?_;intro v1 w1 hown1 hgr1);have hg1:Gr w w1:=(hgw.alloc _).grown hgr1 (A7 hown2);go_wp2_with fail;go_roundw;case rel => exact ⟨i + 1,by omega,by go_num,by simp,by rw [hst.out];exact hown1,hg1⟩
       case measure => simp [intOf];omega
      ·have hst:=Im hd;replace hst:=zH hst;have hown2:=As hown hgx;clear hown;go_wp2_with fail;go_roundw;case rel => exact ⟨i + 1,by omega,by go_num,by simp,by rw [hst.out];exact hown2,hgw⟩
       case measure => simp [intOf];omega
   ·have hle:¬ (i:Int) + 1≤n ∨ ¬ (i:Int) + 1≤4096:=by have:=hN.out;omega
    obtain rfl:i = N:=by omega
    have hle2:(n≤4096→n < (i:Int) + 1)∧(4096 < n→4096 < (i:Int) + 1):=by have:=hN.out;omega
    have hle3:=hle2.1 hq;clear hle hle2;obtain ⟨a',c',hv,hr,_,_⟩:=Af CE hown;subst hv;go_wp2_with fail;go_ret;exact ⟨a',c',rfl,hr,hg⟩
 ·go_enter Tryz.func203,Tryz.ntmps203;go_wp2_with fail;refine (EV a l c 0 _ hl hck.out).mono ?_;rintro e wa ⟨rfl,ga⟩;obtain ⟨ca,fa,sa⟩:=ga.cells;try simp only [Aa] at ca fa sa
  try simp only [zL] at ca fa sa
  try simp only [zD] at ca fa sa
  try simp only [zS] at ca fa sa
  go_wp2_with fail;go_loopw [7,5,6] (fun lv ov tv wr => ∃ i:Nat,i≤N∧lv = .int .i64 ((i:Int) + 1)∧tv = .int .i64 (Bc l i)∧wr.ownsRow w.heap.size 3 1 ov (AN l i).length ((AN l i).flatMap EX)∧Gr w wr) (fun lv _ _ _ => N + 1 - (intOf lv).toNat);case atStart => exact ⟨0,Nat.zero_le _,rfl,by rw [show ((0:Nat):Int) = 0 from rfl,hz.out],World.ownsRow_nil _ _ _ _,ga⟩
  case round =>
   obtain ⟨i,hiN,rfl,rfl,hown,hg⟩:=hrel;have bi:=D9 hal.out h8 (n:=i) ⟨by omega,by omega⟩;obtain ⟨bi1,bi2⟩:=bi;by_cases hlt:i < N
   ·have hon:A2 ((i:Int) + 1):=⟨by omega,by omega⟩
    have hle:(i:Int) + 1≤n:=by have:=hN.out;omega
    have hle2:(i:Int) + 1≤4096:=by omega
    have bj:=D9 hal.out h8 hon;obtain ⟨bj1,bj2⟩:=bj;obtain ⟨wo,rfl⟩:∃ wo:World,wo = wr:=⟨_,rfl⟩
    go_wp2_with fail;go_loopw [22,8] (fun iv v wr => ∃ k:Nat,k≤l.length∧iv = .int .i64 k∧v = .int .i64 (Bc (l.take k) ((i:Int) + 1))∧Gr wo wr) (fun iv _ _ => l.length - (intOf iv).toNat);case atStart => exact ⟨0,Nat.zero_le _,rfl,rfl,Gr.refl _⟩
    case round =>
     obtain ⟨k,hk,rfl,rfl,hgx⟩:=hrel;have hgw:Gr w wr:=hg.trans hgx;by_cases hkl:k < l.length
     ·obtain ⟨s,hs⟩:=Ac l k hkl;obtain ⟨b,off,rfl,hb,c0,c1,c2⟩:=(hl.gr hgw) k s hs;have hleg:=(Ao.leg_iff _).1 (Bp hal.out hs);have bd:=Cu hleg hon;have sb:=D9 (l:=l.take k) (List.all_eq_true.2 fun x hx => List.all_eq_true.1 hal.out x (List.mem_of_mem_take hx)) (by rw [List.length_take];omega) hon;have hsn:Bc (l.take (k + 1)) ((i:Int) + 1) = Bc (l.take k) ((i:Int) + 1) + AX s ((i:Int) + 1):=by unfold Bc;rw [Ae hs,A6]
      replace hsn:=zH hsn;generalize Bc (l.take k) ((i:Int) + 1) = m at *;obtain ⟨bd1,bd2⟩:=bd;obtain ⟨sb1,sb2⟩:=sb;go_wp2_with fail;refine (F8 s _ _ hleg hon).mono ?_;rintro e wd ⟨rfl,gd⟩;obtain ⟨cd,fd,sd⟩:=gd.cells;try simp only [Aa] at cd fd sd
      try simp only [zL] at cd fd sd
      try simp only [zD] at cd fd sd
      try simp only [zS] at cd fd sd
      go_wp2_with fail;go_roundw;case rel => exact ⟨k + 1,by omega,by go_num,by rw [hsn.out],(hgx.alloc _).trans gd⟩
      case measure => simp [intOf];omega
     ·have hall:l.take k = l:=List.take_of_length_le (by omega);rw [hall];by_cases hd:Bc l i < Bc l ((i:Int) + 1)
      ·have hst:=E8 hd;have ln:=DZ l i;have n1:(AN l i).length + ([(i:Int) + 1]:List Int).length≤maxLen:=by unfold maxLen;simp;omega
       have n2:((AN l i).length + ([(i:Int) + 1]:List Int).length) * 8≤140737488355328:=by simp;omega
       replace hst:=zH hst;have n3:w.heap.size≤wr.heap.size:=hgw.size;have hown2:=As hown hgx;clear hown;go_wp2_with (at_builtin;refine Ai (k:=1) (enc:=EX) rfl _ _ 72 rfl w.heap.size 3 i3 _ 8 Tryz.underlying72 hi hz0 hz1 hz2 rfl (by decide) CE Hr _ (AN l i) rfl (hown2.alloc _) (some ⟨wr.heap.size,0,none⟩) 1 [(i:Int) + 1] rfl (An CE wr [(i:Int) + 1] _ _ rfl) (fun h => by cases h) n1 n2 (BG n3 _) ?_;intro v1 w1 hown1 hgr1);have hg1:Gr w w1:=(hgw.alloc _).grown hgr1 (A7 hown2);go_wp2_with fail;go_roundw;case rel => exact ⟨i + 1,by omega,by go_num,by simp,by rw [hst.out];exact hown1,hg1⟩
       case measure => simp [intOf];omega
      ·have hst:=Im hd;replace hst:=zH hst;have hown2:=As hown hgx;clear hown;go_wp2_with fail;go_roundw;case rel => exact ⟨i + 1,by omega,by go_num,by simp,by rw [hst.out];exact hown2,hgw⟩
       case measure => simp [intOf];omega
   ·have hle:¬ (i:Int) + 1≤n ∨ ¬ (i:Int) + 1≤4096:=by have:=hN.out;omega
    obtain rfl:i = N:=by omega
    have hle2:(n≤4096→n < (i:Int) + 1)∧(4096 < n→4096 < (i:Int) + 1):=by have:=hN.out;omega
    have hle3:=hle2.2 hq;clear hle hle2;obtain ⟨a',c',hv,hr,_,_⟩:=Af CE hown;subst hv;go_wp2_with fail;go_ret;exact ⟨a',c',rfl,hr,hg⟩
end Go.Proofs.YtdfelohjdkcpkaaGreatDoor
