/- Demand, in plain numbers: what servers and tasks ask for. Nothing of the program is named here. -/
import Derived.Test.YtdfelohjdkcpkaaGreatDoorKK1
set_option maxHeartbeats 1600000
namespace Go.Proofs.YtdfelohjdkcpkaaGreatDoor
open Go.RowKit
def AX (s:Ao) (l:Int):Int:=if s.k = 3 then l / s.t * s.q + min s.q (l % s.t) else l / s.t * s.q
def JB (a b:Int):Int:=(a + b - 1) / b
def BI (s:Ao) (l:Int):Int:=if s.k = 3∧0 < l then JB l s.t * s.q + s.q else JB l s.t * s.q
def A0 {α:Type} (f:α→Int) (l:List α):Int:=l.foldl (fun n s => n + f s) 0
theorem A6 {α:Type} (f:α→Int) (l:List α) (s:α):A0 f (l ++ [s]) = A0 f l + f s:=by unfold A0;rw [List.foldl_append];rfl
theorem BD {α:Type} (f:α→Int) (l:List α) (s:α):A0 f (s :: l) = f s + A0 f l:=by
 have:∀ (l:List α) (n:Int),l.foldl (fun n s => n + f s) n = n + A0 f l:=by
  intro l;induction l with
  | nil => intro n;simp [A0]
  | cons x r ih => intro n;rw [List.foldl_cons,ih,show A0 f (x :: r) = r.foldl (fun n s => n + f s) (0 + f x) from rfl,ih];omega
 rw [show A0 f (s :: l) = l.foldl (fun n s => n + f s) (0 + f s) from rfl,this];omega
theorem C4 {α:Type} (f:α→Int) (l:List α) (b:Int) (h:∀ s ∈ l,0≤f s∧f s≤b):0≤A0 f l∧A0 f l≤l.length * b:=by
 induction l with
 | nil => exact ⟨Int.le_refl _,by simp [A0]⟩
 | cons s r ih =>
  rw [BD];have:=h s (List.mem_cons_self ..);have:=ih (fun x hx => h x (List.mem_cons_of_mem _ hx));have e:((s :: r).length:Int) * b = r.length * b + b:=by rw [List.length_cons];push_cast;rw [Int.add_mul,Int.one_mul]
  rw [e];omega
def A2 (l:Int):Prop:=0≤l∧l≤1099511627776
def OE (s:Ao):Prop:=1≤s.k∧s.k≤3∧1≤s.q∧s.q≤s.t∧s.t≤256
theorem A4 {l q t:Int} (hl:0≤l) (hq:0≤q) (ht:1≤t) (h:q≤t):0≤l / t∧0≤l / t * q∧l / t * q≤l:=by
 have h0:0≤l / t:=Int.ediv_nonneg hl (by omega);refine ⟨h0,Int.mul_nonneg h0 hq,?_⟩;have h1:l / t * q≤l / t * t:=Int.mul_le_mul_of_nonneg_left h h0;have h2:=Int.ediv_mul_le l (show t ≠ 0 by omega);omega
theorem DC {l q t:Int} (hl:0≤l) (hq:0≤q) (ht:1≤t) (h:q≤t):0≤JB l t∧0≤JB l t * q∧JB l t * q≤l + t - 1:=by
 unfold JB;have:=A4 (l:=l + t - 1) (by omega) hq ht h;exact this
theorem Cu {s:Ao} {l:Int} (hs:OE s) (hl:A2 l):0≤AX s l∧AX s l≤1099511627776 + 256:=by
 obtain ⟨_,_,h3,h4,h5⟩:=hs;obtain ⟨l1,l2⟩:=hl;have:=A4 l1 (show 0≤s.q by omega) (show 1≤s.t by omega) h4;have:=Int.emod_nonneg l (show s.t ≠ 0 by omega);unfold AX;split <;> omega
theorem FY {s:Ao} {l:Int} (hs:OE s) (hl:A2 l):0≤BI s l∧BI s l≤1099511627776 + 512:=by
 obtain ⟨_,_,h3,h4,h5⟩:=hs;obtain ⟨l1,l2⟩:=hl;have:=DC l1 (show 0≤s.q by omega) (show 1≤s.t by omega) h4;unfold BI;split <;> omega
def CT (t:AA) (l:Int):Int:=if l < t.d then 0 else ((l - t.d) / t.p + 1) * t.c
def Ia (t:AA):Prop:=1≤t.c∧t.c≤t.d∧t.d≤t.p∧t.p≤256∧0≤t.s∧t.s≤t.c
theorem GK {t:AA} {l:Int} (ht:Ia t) (hl:A2 l):0≤CT t l∧CT t l≤1099511627776 + 256:=by
 obtain ⟨h1,h2,h3,h4,h5,h6⟩:=ht;obtain ⟨l1,l2⟩:=hl;unfold CT;split
 ·omega
 ·have:=A4 (l:=l - t.d) (q:=t.c) (t:=t.p) (by omega) (by omega) (by omega) (by omega);rw [Int.add_mul,Int.one_mul];omega
def CI (p:Int × Int) (q t:Int):Int × Int:=(p.1 * t + p.2 * q,p.2 * t)
def Ah (l:List Ao):Int × Int:=l.foldl (fun p s => CI p s.q s.t) (0,1)
def AY (l:List Ao):Bool:=l.all Ao.leg
theorem CU (l:List Ao) (s:Ao):Ah (l ++ [s]) = CI (Ah l) s.q s.t:=by
 unfold Ah;rw [List.foldl_append];rfl
theorem Bp {l:List Ao} (h:AY l = true) {i:Nat} {s:Ao} (hi:l[i]? = some s):s.leg = true:=List.all_eq_true.1 h _ (AL hi)
theorem EE (l:List Ao) (s:Ao):AY (l ++ [s]) = (AY l && s.leg):=by simp [AY]
theorem Cw {x a y b:Int} (hx:0≤x) (hxa:x≤a) (hy:0≤y) (hyb:y≤b):0≤x * y∧x * y≤a * b :=
 ⟨Int.mul_nonneg hx hy,Int.mul_le_mul hxa hyb hy (Int.le_trans hx hxa)⟩
def CZ (i:Nat):Int:=((256 ^ i:Nat):Int)
theorem IX (i:Nat):CZ (i + 1) = CZ i * 256:=by unfold CZ;rw [Nat.pow_succ];simp
theorem FK (i:Nat):1≤CZ i:=by unfold CZ;have:=Nat.pow_pos (n:=i) (show 0 < 256 by decide);omega
theorem GR {i:Nat} (h:i≤8):CZ i≤18446744073709551616:=by
 unfold CZ;have:=Nat.pow_le_pow_right (show 0 < 256 by decide) h;have e:(256:Nat) ^ 8 = 18446744073709551616:=by decide
 omega
theorem Hd {n d q t:Int} {i:Nat} (h:0≤n∧n≤i * CZ i∧1≤d∧d≤CZ i) (hq:1≤q∧q≤t∧t≤256) :
 0≤n * t + d * q∧n * t + d * q≤(i + 1:Nat) * CZ (i + 1)∧1≤d * t∧d * t≤CZ (i + 1)∧0≤n * t∧0≤d * q:=by
 obtain ⟨h1,h2,h3,h4⟩:=h;obtain ⟨q1,q2,q3⟩:=hq;have a1:=Cw h1 h2 (show 0≤t by omega) q3;have a2:=Cw (show 0≤d by omega) h4 (show 0≤q by omega) (show q≤256 by omega);have a3:=Cw (show 0≤d by omega) h4 (show 0≤t by omega) q3;have a4:1≤d * t:=by have:=Int.mul_le_mul h3 (show 1≤t by omega) (by decide) (by omega);omega
 have e:((i + 1:Nat):Int) * CZ (i + 1) = i * CZ i * 256 + CZ i * 256:=by rw [IX];push_cast;rw [Int.add_mul,Int.one_mul,Int.mul_assoc]
 rw [e,IX];exact ⟨by omega,by omega,a4,a3.2,a1.1,a2.1⟩
theorem FS (l:List Ao) (h:AY l = true) (i:Nat) (hi:i≤l.length) :
 0≤(Ah (l.take i)).1∧(Ah (l.take i)).1≤i * CZ i∧1≤(Ah (l.take i)).2∧(Ah (l.take i)).2≤CZ i:=by
 induction i with
 | zero => rw [List.take_zero];exact ⟨by decide,by decide,by decide,by decide⟩
 | succ i ih =>
  obtain ⟨s,hs⟩:=Ac l i (by omega);have hl:=(Ao.leg_iff _).1 (Bp h hs);rw [Ae hs,CU];have:=Hd (ih (by omega)) ⟨hl.2.2.1,hl.2.2.2.1,hl.2.2.2.2⟩;exact ⟨this.1,this.2.1,this.2.2.1,this.2.2.2.1⟩
theorem D1 {n d q t:Int} {i:Nat} (hi:i < 8) (h:0≤n∧n≤i * CZ i∧1≤d∧d≤CZ i) (hq:1≤q∧q≤t∧t≤256) :
 BC n∧BC d∧0 < d∧0≤q∧q≤4294967296∧1≤t∧t≤4294967296∧BC (n * t + d * q)∧BC (d * t):=by
 have b:=Hd h hq;have p8:=GR (show i + 1≤8 by omega);have p7:=GR (show i≤8 by omega);have p0:=FK i;have p1:=FK (i + 1);have m1:=(Cw (show (0:Int)≤(i:Int) by omega) (show (i:Int)≤8 by omega) (show 0≤CZ i by omega) p7).2;have m2:=(Cw (show (0:Int)≤((i + 1:Nat):Int) by omega) (show ((i + 1:Nat):Int)≤8 by omega) (show 0≤CZ (i + 1) by omega) p8).2;obtain ⟨b1,b2,b3,b4,b5,b6⟩:=b;obtain ⟨h1,h2,h3,h4⟩:=h;unfold BC;refine ⟨⟨h1,by omega⟩,⟨by omega,by omega⟩,by omega,by omega,by omega,by omega,by omega,⟨b1,by omega⟩,⟨by omega,by omega⟩⟩
theorem Gl (w:World) :
 Calls Tryz.prog 232 #[] w fun e w' => e = .returned (.agg #[.int .u64 0,.int .u64 0,.int .u64 0,.int .u64 1])∧Gr w w':=by
 go_enter Tryz.func232,Tryz.ntmps232;go_wp2_with fail;refine (Pm 1 _).mono ?_;rintro e wa ⟨rfl,ga⟩;obtain ⟨ca,fa,sa⟩:=ga.cells;try simp only [Aa] at ca fa sa
 try simp only [zL] at ca fa sa
 try simp only [zD] at ca fa sa
 try simp only [zS] at ca fa sa
 have za0:w.heap.size < wa.heap.size:=by omega
 have ya0:w.heap.size≤wa.heap.size:=by omega
 have ka0:=fun o => ca (w.heap.size) o (by omega)
 have ja0:=fun o => fa (w.heap.size) o (by omega)
 go_wp2_with fail;refine bodyPost_ret (v:=.agg #[.int .u64 0,.int .u64 0,.int .u64 0,.int .u64 1]) (by simp [results,Tryz.results232,go_sem, *]) rfl ⟨rfl,?_⟩;repeat (first | exact Gr.refl _ | apply Gr.alloc | apply Gr.drew | apply Gr.drewN | (refine Gr.setCell ?_ (by simp) _) | (refine Gr.trans ?_ (by assumption)))
abbrev C2:Value:=.agg #[.int .u64 0,.int .u64 0,.int .u64 0,.int .u64 0]
abbrev Eg (p:Int × Int):Value:=.agg #[.int .u64 (AV p.1),.int .u64 (AR p.1),.int .u64 (AV p.2),.int .u64 (AR p.2)]
theorem G5 {G:List Nat} {E:Nat→Addr} (a:Option Addr) (l:List Ao) (c:Nat) (w:World) (hE:CK G E w) (i0:9 ∈ G) (hl:AJ w a l) (hm:l.length≤maxLen) (h:AY l = false) :
 Calls Tryz.prog 200 #[.slice a l.length c] w fun e w' => e = .returned (.tuple #[C2,(Value.iface 384 (.pointer (some (E 9))))])∧Gr w w':=by
 unfold maxLen at hm;go_enter Tryz.func200,Tryz.ntmps200;go_wp2_with fail;go_loopw [12] (fun i wr => ∃ k:Nat,k≤l.length∧AY (l.take k) = true∧i = .int .i64 k∧Gr (w.alloc (.cells #[.int .u64 0,.int .u64 0,.int .u64 0,.int .u64 0] 195)) wr) (fun i _ => l.length - (intOf i).toNat);case atStart => exact ⟨0,Nat.zero_le _,rfl,rfl,Gr.refl _⟩
 case round =>
  obtain ⟨k,hk,hal,rfl,hg⟩:=hrel;by_cases hlt:k < l.length
  ·obtain ⟨s,hs⟩:=Ac l k hlt;have hgw:Gr w wr:=((Gr.refl _).alloc _).trans hg;obtain ⟨b,off,rfl,hb,h0,h1,h2⟩:=(hl.gr hgw) k s hs;have hE':=(hE.gr hgw).gr ((Gr.refl _).alloc (.cells #[.int .i64 s.k,.int .i64 s.q,.int .i64 s.t] 29));have zw:w.heap.size < wr.heap.size:=by have:=hg.size;simp at this;omega
   have yw:w.heap.size≤wr.heap.size:=by omega
   obtain ⟨cw,fw,_⟩:=hg.cells;simp only [zL] at cw fw;cases hleg:s.leg
   ·have hleg:=Lib.hid hleg;go_wp2_with fail;refine (BH s.k s.q s.t _ hE' i0 hleg.out).mono ?_;rintro e wa ⟨rfl,ga⟩;obtain ⟨ca,fa,sa⟩:=ga.cells;try simp only [Aa] at ca fa sa
    try simp only [zL] at ca fa sa
    try simp only [zD] at ca fa sa
    try simp only [zS] at ca fa sa
    have za0:w.heap.size < wa.heap.size:=by omega
    have ya0:w.heap.size≤wa.heap.size:=by omega
    have ka0:=fun o => ca (w.heap.size) o (by omega)
    have ja0:=fun o => fa (w.heap.size) o (by omega)
    go_wp2_with fail;refine bodyPost_ret (v:=.tuple #[C2,(Value.iface 384 (.pointer (some (E 9))))]) (by simp (maxDischargeDepth:=8) [results,Tryz.results200,go_sem, *]) rfl ⟨rfl,?_⟩;repeat (first | exact Gr.refl _ | apply Gr.alloc | apply Gr.drew | apply Gr.drewN | (refine Gr.setCell ?_ (by simp) _) | (refine Gr.trans ?_ (by assumption)))
   ·have hleg:=Lib.hid hleg;go_wp2_with fail;refine (Bk s.k s.q s.t _ hleg.out).mono ?_;rintro e wa ⟨rfl,ga⟩;obtain ⟨ca,fa,sa⟩:=ga.cells;try simp only [Aa] at ca fa sa
    try simp only [zL] at ca fa sa
    try simp only [zD] at ca fa sa
    try simp only [zS] at ca fa sa
    have za0:w.heap.size < wa.heap.size:=by omega
    have ya0:w.heap.size≤wa.heap.size:=by omega
    have ka0:=fun o => ca (w.heap.size) o (by omega)
    have ja0:=fun o => fa (w.heap.size) o (by omega)
    go_wp2_with fail;go_roundw;case rel => exact ⟨k + 1,by omega,by rw [Ae hs,EE,hal,hleg.out];rfl,by go_num,(hg.alloc _).trans ga⟩
    case measure => simp [intOf];omega
  ·have:l.take k = l:=List.take_of_length_le (by omega);rw [this,h] at hal;cases hal
theorem Ft {G:List Nat} {E:Nat→Addr} (a:Option Addr) (l:List Ao) (c:Nat) (w:World) (hE:CK G E w) (i3:6 ∈ G) (hl:AJ w a l) (hm:l.length≤maxLen) (h:AY l = true) (h8:8 < l.length) :
 Calls Tryz.prog 200 #[.slice a l.length c] w fun e w' => e = .returned (.tuple #[C2,(Value.iface 384 (.pointer (some (E 6))))])∧Gr w w':=by
 unfold maxLen at hm;go_enter Tryz.func200,Tryz.ntmps200;go_wp2_with fail;go_loopw [12] (fun i wr => ∃ k:Nat,k≤l.length∧i = .int .i64 k∧Gr (w.alloc (.cells #[.int .u64 0,.int .u64 0,.int .u64 0,.int .u64 0] 195)) wr) (fun i _ => l.length - (intOf i).toNat);case atStart => exact ⟨0,Nat.zero_le _,rfl,Gr.refl _⟩
 case round =>
  obtain ⟨k,hk,rfl,hg⟩:=hrel;have hgw:Gr w wr:=((Gr.refl _).alloc _).trans hg;have zw:w.heap.size < wr.heap.size:=by have:=hg.size;simp at this;omega
  have yw:w.heap.size≤wr.heap.size:=by omega
  obtain ⟨cw,fw,_⟩:=hg.cells;simp only [zL] at cw fw;by_cases hlt:k < l.length
  ·obtain ⟨s,hs⟩:=Ac l k hlt;obtain ⟨b,off,rfl,hb,h0,h1,h2⟩:=(hl.gr hgw) k s hs;go_wp2_with fail;refine (Bk s.k s.q s.t _ (Bp h hs)).mono ?_;rintro e wa ⟨rfl,ga⟩;obtain ⟨ca,fa,sa⟩:=ga.cells;try simp only [Aa] at ca fa sa
   try simp only [zL] at ca fa sa
   try simp only [zD] at ca fa sa
   try simp only [zS] at ca fa sa
   have za0:w.heap.size < wa.heap.size:=by omega
   have ya0:w.heap.size≤wa.heap.size:=by omega
   have ka0:=fun o => ca (w.heap.size) o (by omega)
   have ja0:=fun o => fa (w.heap.size) o (by omega)
   go_wp2_with fail;go_roundw;case rel => exact ⟨k + 1,by omega,by go_num,(hg.alloc _).trans ga⟩
   case measure => simp [intOf];omega
  ·have hE':=hE.gr hgw;have hc:=hE'.c0 i3;have hx:w.heap.size ≠ 6:=by have:=hE.lt 6 i3;omega
   go_wp2_with fail;go_region;go_wp2_with fail;refine bodyPost_ret (v:=.tuple #[C2,(Value.iface 384 (.pointer (some (E 6))))]) (by simp (maxDischargeDepth:=8) [results,Tryz.results200,go_sem, *]) rfl ⟨rfl,?_⟩;repeat (first | exact Gr.refl _ | apply Gr.alloc | apply Gr.drew | apply Gr.drewN | (refine Gr.setCell ?_ (by simp) _) | (refine Gr.trans ?_ (by assumption)))
theorem CV (a:Option Addr) (l:List Ao) (c:Nat) (w:World) (hl:AJ w a l) (h:AY l = true) (h8:l.length≤8) :
 Calls Tryz.prog 200 #[.slice a l.length c] w fun e w' => e = .returned (.tuple #[Eg (Ah l),.nilIface])∧Gr w w':=by
 go_enter Tryz.func200,Tryz.ntmps200;go_wp2_with fail;go_loopw [12] (fun i wr => ∃ k:Nat,k≤l.length∧i = .int .i64 k∧Gr (w.alloc (.cells #[.int .u64 0,.int .u64 0,.int .u64 0,.int .u64 0] 195)) wr) (fun i _ => l.length - (intOf i).toNat);case atStart => exact ⟨0,Nat.zero_le _,rfl,Gr.refl _⟩
 case round =>
  obtain ⟨k,hk,rfl,hg⟩:=hrel;have hgw:Gr w wr:=((Gr.refl _).alloc _).trans hg;have zw:w.heap.size < wr.heap.size:=by have:=hg.size;simp at this;omega
  have yw:w.heap.size≤wr.heap.size:=by omega
  obtain ⟨cw,fw,_⟩:=hg.cells;simp only [zL] at cw fw;by_cases hlt:k < l.length
  ·obtain ⟨s,hs⟩:=Ac l k hlt;obtain ⟨b,off,rfl,hb,h0,h1,h2⟩:=(hl.gr hgw) k s hs;go_wp2_with fail;refine (Bk s.k s.q s.t _ (Bp h hs)).mono ?_;rintro e wa ⟨rfl,ga⟩;obtain ⟨ca,fa,sa⟩:=ga.cells;try simp only [Aa] at ca fa sa
   try simp only [zL] at ca fa sa
   try simp only [zD] at ca fa sa
   try simp only [zS] at ca fa sa
   have za0:w.heap.size < wa.heap.size:=by omega
   have ya0:w.heap.size≤wa.heap.size:=by omega
   have ka0:=fun o => ca (w.heap.size) o (by omega)
   have ja0:=fun o => fa (w.heap.size) o (by omega)
   go_wp2_with fail;go_roundw;case rel => exact ⟨k + 1,by omega,by go_num,(hg.alloc _).trans ga⟩
   case measure => simp [intOf];omega
  ·go_wp2_with fail;refine (Gl _).mono ?_;rintro e wb ⟨rfl,gb⟩;obtain ⟨cb,fb,sb⟩:=gb.cells;try simp only [Aa] at cb fb sb
   try simp only [zL] at cb fb sb
   try simp only [zD] at cb fb sb
   try simp only [zS] at cb fb sb
   have zb0:w.heap.size < wb.heap.size:=by omega
   have yb0:w.heap.size≤wb.heap.size:=by omega
   have kb0:=fun o => cb (w.heap.size) o (by omega)
   have jb0:=fun o => fb (w.heap.size) o (by omega)
   go_wp2_with fail;obtain ⟨wo,rfl⟩:∃ wo:World,wo = wr:=⟨_,rfl⟩
   have gb0:Gr w wb:=hgw.trans gb;go_loopw [31] (fun i wx => ∃ j:Nat,j≤l.length∧i = .int .i64 j∧Gr wb wx∧wb.heap.size < wx.heap.size∧(∀ o,wx.frozen? ⟨wb.heap.size,o,none⟩ = false)∧wx.cell? ⟨wb.heap.size,0,none⟩ = some (.int .u64 (AV (Ah (l.take j)).1))∧wx.cell? ⟨wb.heap.size,1,none⟩ = some (.int .u64 (AR (Ah (l.take j)).1))∧wx.cell? ⟨wb.heap.size,2,none⟩ = some (.int .u64 (AV (Ah (l.take j)).2))∧wx.cell? ⟨wb.heap.size,3,none⟩ = some (.int .u64 (AR (Ah (l.take j)).2))) (fun i _ => l.length - (intOf i).toNat);case atStart => exact ⟨0,Nat.zero_le _,rfl,(Gr.refl _).alloc _,by simp,by simp [go_sem],by simp [go_sem];rfl,by simp [go_sem];rfl,by simp [go_sem];rfl,by simp [go_sem];rfl⟩
   case round =>
    obtain ⟨j,hj,rfl,gx,zx,fx,x0,x1,x2,x3⟩:=hrel;have hgx:Gr w wr:=gb0.trans gx;obtain ⟨cx,fx',_⟩:=gx.cells;have zx0:w.heap.size < wr.heap.size:=by omega
    have bd:=FS l h j hj;by_cases hlt2:j < l.length
    ·obtain ⟨s,hs⟩:=Ac l j hlt2;obtain ⟨b,off,rfl,hb,h0,h1,h2⟩:=(hl.gr hgx) j s hs;have hleg:=(Ao.leg_iff _).1 (Bp h hs);obtain ⟨s1,s2,s3,s4,s5,s6,s7,s8,s9⟩:=D1 (by omega) bd ⟨hleg.2.2.1,hleg.2.2.2.1,hleg.2.2.2.2⟩;have hsn:Ah (l.take (j + 1)) = CI (Ah (l.take j)) s.q s.t:=by rw [Ae hs,CU]
     have hsn:=Lib.hid hsn;generalize Ah (l.take j) = p at *;obtain ⟨n,d⟩:=p;dsimp only at s1 s2 s3 s4 s5 s6 s7 s8 s9 x0 x1 x2 x3;clear bd;go_wp2_with fail;refine (J2 n d s.q s.t _ s1 s2 s3 s4 s5 s6 s7 s8 s9).mono ?_;rintro e wp ⟨rfl,gp⟩;obtain ⟨cp,fp,sp⟩:=gp.cells;try simp only [Aa] at cp fp sp
     try simp only [zL] at cp fp sp
     try simp only [zD] at cp fp sp
     try simp only [zS] at cp fp sp
     have zp0:w.heap.size < wp.heap.size:=by omega
     have yp0:w.heap.size≤wp.heap.size:=by omega
     have kp0:=fun o => cp (w.heap.size) o (by omega)
     have jp0:=fun o => fp (w.heap.size) o (by omega)
     have zp1:wb.heap.size < wp.heap.size:=by omega
     have yp1:wb.heap.size≤wp.heap.size:=by omega
     have kp1:=fun o => cp (wb.heap.size) o (by omega)
     have jp1:=fun o => fp (wb.heap.size) o (by omega)
     go_wp2_with fail;go_roundw;case rel =>
      refine ⟨j + 1,by omega,by go_num,?_,by simp;omega,fun o => by simp [go_sem, *],?_,?_,?_,?_⟩
      ·have:=(gx.alloc (.cells #[.int .i64 s.k,.int .i64 s.q,.int .i64 s.t] 29)).trans gp;repeat (first | exact this | (refine Gr.setCell ?_ (by simp) _))
      all_goals (rw [hsn.out];simp (maxDischargeDepth:=8) [go_sem,CI, *])
     case measure => simp [intOf];omega
    ·have hj':j = l.length:=by omega
     subst hj';rw [List.take_length] at x0 x1 x2 x3;go_wp2_with fail;refine bodyPost_ret (v:=.tuple #[Eg (Ah l),.nilIface]) (by simp (maxDischargeDepth:=8) [results,Tryz.results200,go_sem, *]) rfl ⟨rfl,?_⟩;repeat (first | exact Gr.refl _ | apply Gr.alloc | apply Gr.drew | apply Gr.drewN | (refine Gr.setCell ?_ (by simp) _) | (refine Gr.trans ?_ (by assumption)))
structure Jx where
 gap:Int
 q:Int
 t:Int
def BK (s:Ao):Bool:=decide (s.k = 0∧s.q = 0∧s.t = 0)
def AE (s:Ao):Bool:=BK s || s.leg
def Ak (s:Ao):Jx:=if BK s = true then ⟨0,1,1⟩ else if s.k = 3 then ⟨s.t - s.q,s.q,s.t⟩ else ⟨s.t - 1,s.q,s.t⟩
structure DS (r:Jx):Prop where
 g0:0≤r.gap
 g1:r.gap≤r.t - 1
 q1:1≤r.q
 qt:r.q≤r.t
 t2:r.t≤256
theorem Be {s:Ao} (h:AE s = true):DS (Ak s):=by
 unfold Ak;cases hw:BK s with
 | true => rw [if_pos rfl];exact ⟨by decide,by decide,by decide,by decide,by decide⟩
 | false =>
  unfold AE at h;rw [hw,Bool.false_or] at h;obtain ⟨h1,h2,h3,h4,h5⟩:=(Ao.leg_iff _).1 h;rw [if_neg (by decide)];split
  ·exact ⟨by dsimp only;omega,by dsimp only;omega,h3,h4,h5⟩
  ·exact ⟨by dsimp only;omega,by dsimp only;omega,h3,h4,h5⟩
def Ey (r:Jx) (m:Int):Int:=m / r.t * r.q + max 0 (m % r.t - (r.t - r.q))
def Au (r:Jx) (l:Int):Int:=if l - r.gap≤0 then 0 else Ey r (l - r.gap)
theorem Cx {r:Jx} (h:DS r) {m:Int} (hm:0≤m):∃ x u,m = r.t * x + u∧0≤x∧0≤u∧u < r.t∧m / r.t = x∧m % r.t = u:=by
 have ht:0 < r.t:=by have:=h.q1;have:=h.qt;omega
 exact ⟨m / r.t,m % r.t,by have:=Int.mul_ediv_add_emod m r.t;omega,Int.ediv_nonneg hm (by omega),Int.emod_nonneg _ (by omega),Int.emod_lt_of_pos _ ht,rfl,rfl⟩
theorem Gn {r:Jx} (h:DS r) {m:Int} (hm:0≤m):0≤Ey r m:=by
 obtain ⟨x,u,hx,x0,u0,u1,e1,e2⟩:=Cx h hm;unfold Ey;rw [e1,e2];have:=Int.mul_nonneg x0 (show 0≤r.q by have:=h.q1;omega);omega
theorem O2 {r:Jx} (h:DS r) {m:Int} (hm:0≤m):Ey r m≤m:=by
 obtain ⟨x,u,hx,x0,u0,u1,e1,e2⟩:=Cx h hm;unfold Ey;rw [e1,e2];have h1:=Int.mul_le_mul_of_nonneg_left h.qt x0;have h2:=Int.mul_comm r.t x;have:=h.q1;have:=h.qt;omega
theorem M4 {r:Jx} (h:DS r) {a b:Int} (ha:0≤a) (hab:a≤b):Ey r a≤Ey r b:=by
 obtain ⟨x,u,hx,x0,u0,u1,e1,e2⟩:=Cx h ha;obtain ⟨y,v,hy,y0,v0,v1,f1,f2⟩:=Cx h (show 0≤b by omega);unfold Ey;rw [e1,e2,f1,f2];have q1:=h.q1;have qt:=h.qt;have hxy:x≤y:=by
  have h1:r.t * x < r.t * (y + 1):=by rw [Int.mul_add,Int.mul_one];omega
  have:=Int.lt_of_mul_lt_mul_left h1 (by omega);omega
 by_cases he:x = y
 ·subst he;omega
 ·have h1:(x + 1) * r.q≤y * r.q:=Int.mul_le_mul_of_nonneg_right (by omega) (by omega);rw [Int.add_mul,Int.one_mul] at h1;omega
theorem Bx {r:Jx} (h:DS r) (l:Int):0≤Au r l:=by
 unfold Au;split
 ·exact Int.le_refl _
 ·exact Gn h (by omega)
theorem Dy {r:Jx} (h:DS r) {l:Int} (hl:0≤l):Au r l≤l:=by
 unfold Au;have:=h.g0;split
 ·exact hl
 ·have:=O2 h (show 0≤l - r.gap by omega);omega
theorem Ko {r:Jx} (h:DS r) {a b:Int} (hab:a≤b):Au r a≤Au r b:=by
 unfold Au;by_cases h1:a - r.gap≤0
 ·rw [if_pos h1];split
  ·exact Int.le_refl _
  ·exact Gn h (by omega)
 ·rw [if_neg h1,if_neg (by omega)];exact M4 h (by omega) (by omega)
theorem M2 {r:Jx} (h:DS r) (l:Int):r.q * (l - (r.gap + r.t - r.q))≤r.t * Au r l:=by
 have q1:=h.q1;have qt:=h.qt;unfold Au;split
 ·rw [Int.mul_zero];exact Int.mul_nonpos_of_nonneg_of_nonpos (by omega) (by omega)
 ·rename_i hm;obtain ⟨x,u,hx,x0,u0,u1,e1,e2⟩:=Cx h (show 0≤l - r.gap by omega);unfold Ey;rw [e1,e2,Int.mul_add,show l - (r.gap + r.t - r.q) = r.t * x + (u - (r.t - r.q)) by omega,Int.mul_add,← Int.mul_assoc,← Int.mul_assoc];have e3:r.q * r.t * x = r.t * x * r.q:=by rw [Int.mul_comm r.q r.t,Int.mul_assoc,Int.mul_assoc,Int.mul_comm r.q x]
  rw [e3];by_cases hu:u - (r.t - r.q)≤0
  ·rw [show max 0 (u - (r.t - r.q)) = 0 by omega,Int.mul_zero];have:=Int.mul_nonpos_of_nonneg_of_nonpos (show 0≤r.q by omega) hu;omega
  ·rw [show max 0 (u - (r.t - r.q)) = u - (r.t - r.q) by omega];have:=Int.mul_le_mul_of_nonneg_right qt (show 0≤u - (r.t - r.q) by omega);omega
theorem EL (a b:Ao) (w:World):(binOp .eql 29 (.agg #[.int .i64 a.k,.int .i64 a.q,.int .i64 a.t]) (.agg #[.int .i64 b.k,.int .i64 b.q,.int .i64 b.t])).run Tryz.prog w = .ok (.bool (decide (a.k = b.k∧a.q = b.q∧a.t = b.t))) w:=by
 by_cases h1:a.k = b.k
 ·by_cases h2:a.q = b.q
  ·by_cases h3:a.t = b.t
   ·simp [go_sem,h1,h2,h3]
   ·simp [go_sem,h1,h2,h3]
  ·simp [go_sem,h1,h2]
 ·simp [go_sem,h1]
theorem Lh (s:Ao) (w:World) (h:AE s = true) :
 Calls Tryz.prog 231 #[.agg #[.int .i64 s.k,.int .i64 s.q,.int .i64 s.t]] w fun e w' => e = .returned (.tuple #[.agg #[.int .i64 (Ak s).gap,.int .i64 (Ak s).q,.int .i64 (Ak s).t],.nilIface])∧Gr w w':=by
 have hs:=fun w => EL s ⟨0,0,0⟩ w
 dsimp only at hs;rw [show decide (s.k = 0∧s.q = 0∧s.t = 0) = BK s from rfl] at hs;unfold Ak;cases hw:BK s with
 | true =>
  rw [hw] at hs;rw [if_pos rfl];replace hw:=zH hw;go_enter Tryz.func231,Tryz.ntmps231;go_wp2_with fail;refine bodyPost_ret (v:=.tuple #[.agg #[.int .i64 0,.int .i64 1,.int .i64 1],.nilIface]) (by simp [results,Tryz.results231,go_sem, *]) rfl ⟨rfl,(by repeat (first | exact Gr.refl _ | apply Gr.alloc | apply Gr.drew | apply Gr.drewN | (refine Gr.setCell ?_ (by first | (simp;done) | (simp;omega)) _) | (refine Gr.trans ?_ (by assumption))))⟩
 | false =>
  rw [hw] at hs;rw [if_neg (by decide)];unfold AE at h;rw [hw,Bool.false_or] at h;have hck:=fun w => Bk s.k s.q s.t w h
  obtain ⟨h1,h2,h3,h4,h5⟩:=(Ao.leg_iff _).1 h;refine AZ ?_ hck hw h;clear hck hw h;intro hck hw h;by_cases h3':s.k = 3
  ·rw [if_pos h3'];have e3:(s.k == 3) = true:=by simpa using h3'
   clear h3';go_enter Tryz.func231,Tryz.ntmps231;go_wp2_with fail;refine (hck.out _).mono ?_;rintro e wa ⟨rfl,ga⟩;obtain ⟨ca,fa,sa⟩:=ga.cells;try simp only [Aa] at ca fa sa
   try simp only [zL] at ca fa sa
   try simp only [zD] at ca fa sa
   try simp only [zS] at ca fa sa
   have za0:w.heap.size < wa.heap.size:=by omega
   have ya0:w.heap.size≤wa.heap.size:=by omega
   have ka0:=fun o => ca (w.heap.size) o (by omega)
   have ja0:=fun o => fa (w.heap.size) o (by omega)
   have za1:w.heap.size + 1 < wa.heap.size:=by omega
   have ka1:=fun o => ca (w.heap.size + 1) o (by omega)
   have ja1:=fun o => fa (w.heap.size + 1) o (by omega)
   go_wp2_with fail;refine bodyPost_ret (v:=.tuple #[.agg #[.int .i64 (s.t - s.q),.int .i64 s.q,.int .i64 s.t],.nilIface]) (by simp [results,Tryz.results231,go_sem, *]) rfl ⟨rfl,(by repeat (first | exact Gr.refl _ | apply Gr.alloc | apply Gr.drew | apply Gr.drewN | (refine Gr.setCell ?_ (by first | (simp;done) | (simp;omega)) _) | (refine Gr.trans ?_ (by assumption))))⟩
  ·rw [if_neg h3'];have e3:(s.k == 3) = false:=by simpa using h3'
   clear h3';go_enter Tryz.func231,Tryz.ntmps231;go_wp2_with fail;refine (hck.out _).mono ?_;rintro e wa ⟨rfl,ga⟩;obtain ⟨ca,fa,sa⟩:=ga.cells;try simp only [Aa] at ca fa sa
   try simp only [zL] at ca fa sa
   try simp only [zD] at ca fa sa
   try simp only [zS] at ca fa sa
   have za0:w.heap.size < wa.heap.size:=by omega
   have ya0:w.heap.size≤wa.heap.size:=by omega
   have ka0:=fun o => ca (w.heap.size) o (by omega)
   have ja0:=fun o => fa (w.heap.size) o (by omega)
   have za1:w.heap.size + 1 < wa.heap.size:=by omega
   have ka1:=fun o => ca (w.heap.size + 1) o (by omega)
   have ja1:=fun o => fa (w.heap.size + 1) o (by omega)
   go_wp2_with fail;refine bodyPost_ret (v:=.tuple #[.agg #[.int .i64 (s.t - 1),.int .i64 s.q,.int .i64 s.t],.nilIface]) (by simp [results,Tryz.results231,go_sem, *]) rfl ⟨rfl,(by repeat (first | exact Gr.refl _ | apply Gr.alloc | apply Gr.drew | apply Gr.drewN | (refine Gr.setCell ?_ (by first | (simp;done) | (simp;omega)) _) | (refine Gr.trans ?_ (by assumption))))⟩
theorem of_no {G:List Nat} {E:Nat→Addr} (s:Ao) (w:World) (hE:CK G E w) (i0:9 ∈ G) (h:AE s = false) :
 Calls Tryz.prog 231 #[.agg #[.int .i64 s.k,.int .i64 s.q,.int .i64 s.t]] w fun e w' => e = .returned (.tuple #[.agg #[.int .i64 0,.int .i64 0,.int .i64 0],(Value.iface 384 (.pointer (some (E 9))))])∧Gr w w':=by
 have hs:=fun w => EL s ⟨0,0,0⟩ w
 dsimp only at hs;rw [show decide (s.k = 0∧s.q = 0∧s.t = 0) = BK s from rfl] at hs;unfold AE at h;rw [Bool.or_eq_false_iff] at h;obtain ⟨hw,hl⟩:=h;rw [hw] at hs;have hck:=fun w (g:CK G E w) => BH s.k s.q s.t w g i0 hl
 refine AZ ?_ hck hw hl;clear hck hw hl;intro hck hw hl;go_enter Tryz.func231,Tryz.ntmps231;go_wp2_with fail;refine (hck.out _ (hE.gr (((Gr.refl w).alloc _).alloc _))).mono ?_;rintro e wa ⟨rfl,ga⟩;obtain ⟨ca,fa,sa⟩:=ga.cells;try simp only [Aa] at ca fa sa
 try simp only [zL] at ca fa sa
 try simp only [zD] at ca fa sa
 try simp only [zS] at ca fa sa
 have za0:w.heap.size < wa.heap.size:=by omega
 have ya0:w.heap.size≤wa.heap.size:=by omega
 have ka0:=fun o => ca (w.heap.size) o (by omega)
 have ja0:=fun o => fa (w.heap.size) o (by omega)
 have za1:w.heap.size + 1 < wa.heap.size:=by omega
 have ka1:=fun o => ca (w.heap.size + 1) o (by omega)
 have ja1:=fun o => fa (w.heap.size + 1) o (by omega)
 go_wp2_with fail;refine bodyPost_ret (v:=.tuple #[.agg #[.int .i64 0,.int .i64 0,.int .i64 0],(Value.iface 384 (.pointer (some (E 9))))]) (by simp [results,Tryz.results231,go_sem, *]) rfl ⟨rfl,(by repeat (first | exact Gr.refl _ | apply Gr.alloc | apply Gr.drew | apply Gr.drewN | (refine Gr.setCell ?_ (by first | (simp;done) | (simp;omega)) _) | (refine Gr.trans ?_ (by assumption))))⟩
theorem M0 (r:Jx) (l:Int) (w:World) (hr:DS r) (hl:A2 l) :
 Calls Tryz.prog 243 #[.agg #[.int .i64 r.gap,.int .i64 r.q,.int .i64 r.t],.int .i64 l] w fun e w' => e = .returned (.int .i64 (Au r l))∧Gr w w':=by
 obtain ⟨g0,g1,q1,qt,t2⟩:=hr;obtain ⟨l1,l2⟩:=hl;unfold Au;by_cases hm:l - r.gap≤0
 ·rw [if_pos hm];go_enter Tryz.func243,Tryz.ntmps243;go_wp2_with fail;go_ret;exact ⟨rfl,(by repeat (first | exact Gr.refl _ | apply Gr.alloc | apply Gr.drew | apply Gr.drewN | (refine Gr.setCell ?_ (by first | (simp;done) | (simp;omega)) _) | (refine Gr.trans ?_ (by assumption))))⟩
 ·rw [if_neg hm];obtain ⟨m,hmm⟩:∃ m,l - r.gap = m:=⟨_,rfl⟩
  have m1:0 < m:=by omega
  have m2:m≤1099511627776:=by omega
  obtain ⟨q0,q1',q2⟩:=A4 (show 0≤m by omega) (show 0≤r.q by omega) (show 1≤r.t by omega) qt;have n0:=Int.emod_nonneg m (show r.t ≠ 0 by omega);have n1:=Int.emod_lt_of_pos m (show 0 < r.t by omega);unfold Ey;rw [hmm];clear hm;go_enter Tryz.func243,Tryz.ntmps243;go_wp2_with fail;go_quiet (fail);go_wp2_with fail;all_goals
   go_ret;exact ⟨Hb (by first | rfl | (rw [Int.max_def];split <;> omega)),(by repeat (first | exact Gr.refl _ | apply Gr.alloc | apply Gr.drew | apply Gr.drewN | (refine Gr.setCell ?_ (by first | (simp;done) | (simp;omega)) _) | (refine Gr.trans ?_ (by assumption))))⟩
theorem EW (s:Ao) (l:Int) (w:World) (h:AE s = true) (hl:A2 l) :
 Calls Tryz.prog 209 #[.agg #[.int .i64 s.k,.int .i64 s.q,.int .i64 s.t],.int .i64 l] w fun e w' => e = .returned (.tuple #[.int .i64 (Au (Ak s) l),.nilIface])∧Gr w w':=by
 have hof:=fun w => Lh s w h
 have hgv:=fun w => M0 (Ak s) l w (Be h) hl
 obtain ⟨l1,l2⟩:=hl;refine AZ ?_ h hof hgv;clear h hof hgv;intro h hof hgv;go_enter Tryz.func209,Tryz.ntmps209;go_wp2_with fail;refine (hof.out _).mono ?_;rintro e wa ⟨rfl,ga⟩;obtain ⟨ca,fa,sa⟩:=ga.cells;try simp only [Aa] at ca fa sa
 try simp only [zL] at ca fa sa
 try simp only [zD] at ca fa sa
 try simp only [zS] at ca fa sa
 have za0:w.heap.size < wa.heap.size:=by omega
 have ya0:w.heap.size≤wa.heap.size:=by omega
 have ka0:=fun o => ca (w.heap.size) o (by omega)
 have ja0:=fun o => fa (w.heap.size) o (by omega)
 go_wp2_with fail;go_wp2_with fail;refine (hgv.out _).mono ?_;rintro e wb ⟨rfl,gb⟩;obtain ⟨cb,fb,sb⟩:=gb.cells;try simp only [Aa] at cb fb sb
 try simp only [zL] at cb fb sb
 try simp only [zD] at cb fb sb
 try simp only [zS] at cb fb sb
 have zb0:w.heap.size < wb.heap.size:=by omega
 have yb0:w.heap.size≤wb.heap.size:=by omega
 have kb0:=fun o => cb (w.heap.size) o (by omega)
 have jb0:=fun o => fb (w.heap.size) o (by omega)
 go_wp2_with fail;go_ret2;exact ⟨rfl,(by repeat (first | exact Gr.refl _ | apply Gr.alloc | apply Gr.drew | apply Gr.drewN | (refine Gr.setCell ?_ (by first | (simp;done) | (simp;omega)) _) | (refine Gr.trans ?_ (by assumption))))⟩
theorem BM (s:Ao) (w:World) (h:AE s = true) :
 Calls Tryz.prog 199 #[.agg #[.int .i64 s.k,.int .i64 s.q,.int .i64 s.t]] w fun e w' => e = .returned (.tuple #[.int .i64 ((Ak s).gap + (Ak s).t - (Ak s).q),.nilIface])∧Gr w w':=by
 have hof:=fun w => Lh s w h
 obtain ⟨g0,g1,q1,qt,t2⟩:=Be h;replace h:=zH h;replace hof:=zH hof;go_enter Tryz.func199,Tryz.ntmps199;go_wp2_with fail;refine (hof.out _).mono ?_;rintro e wa ⟨rfl,ga⟩;obtain ⟨ca,fa,sa⟩:=ga.cells;try simp only [Aa] at ca fa sa
 try simp only [zL] at ca fa sa
 try simp only [zD] at ca fa sa
 try simp only [zS] at ca fa sa
 have za0:w.heap.size < wa.heap.size:=by omega
 have ya0:w.heap.size≤wa.heap.size:=by omega
 have ka0:=fun o => ca (w.heap.size) o (by omega)
 have ja0:=fun o => fa (w.heap.size) o (by omega)
 go_wp2_with fail;go_ret2;exact ⟨rfl,(by repeat (first | exact Gr.refl _ | apply Gr.alloc | apply Gr.drew | apply Gr.drewN | (refine Gr.setCell ?_ (by first | (simp;done) | (simp;omega)) _) | (refine Gr.trans ?_ (by assumption))))⟩
theorem G3 {G:List Nat} {E:Nat→Addr} (s:Ao) (w:World) (hE:CK G E w) (i0:9 ∈ G) (h:AE s = false) :
 Calls Tryz.prog 199 #[.agg #[.int .i64 s.k,.int .i64 s.q,.int .i64 s.t]] w fun e w' => e = .returned (.tuple #[.int .i64 0,(Value.iface 384 (.pointer (some (E 9))))])∧Gr w w':=by
 have hof:=fun w hE => of_no (G:=G) (E:=E) s w hE i0 h
 replace h:=zH h;replace hof:=zH hof;go_enter Tryz.func199,Tryz.ntmps199;go_wp2_with fail;refine (hof.out _ (hE.gr ((Gr.refl w).alloc _))).mono ?_;rintro e wa ⟨rfl,ga⟩;obtain ⟨ca,fa,sa⟩:=ga.cells;try simp only [Aa] at ca fa sa
 try simp only [zL] at ca fa sa
 try simp only [zD] at ca fa sa
 try simp only [zS] at ca fa sa
 have za0:w.heap.size < wa.heap.size:=by omega
 have ya0:w.heap.size≤wa.heap.size:=by omega
 have ka0:=fun o => ca (w.heap.size) o (by omega)
 have ja0:=fun o => fa (w.heap.size) o (by omega)
 go_wp2_with fail;go_ret2;exact ⟨rfl,(by repeat (first | exact Gr.refl _ | apply Gr.alloc | apply Gr.drew | apply Gr.drewN | (refine Gr.setCell ?_ (by first | (simp;done) | (simp;omega)) _) | (refine Gr.trans ?_ (by assumption))))⟩
theorem Mn (s:Ao) (w:World) (h:AE s = true) :
 Calls Tryz.prog 234 #[.agg #[.int .i64 s.k,.int .i64 s.q,.int .i64 s.t]] w fun e w' => e = .returned (.tuple #[.int .i64 (Ak s).q,.int .i64 (Ak s).t,.int .i64 ((Ak s).gap + (Ak s).t - (Ak s).q),.nilIface])∧Gr w w':=by
 have hof:=fun w => Lh s w h
 obtain ⟨g0,g1,q1,qt,t2⟩:=Be h;replace h:=zH h;replace hof:=zH hof;go_enter Tryz.func234,Tryz.ntmps234;go_wp2_with fail;refine (hof.out _).mono ?_;rintro e wa ⟨rfl,ga⟩;obtain ⟨ca,fa,sa⟩:=ga.cells;try simp only [Aa] at ca fa sa
 try simp only [zL] at ca fa sa
 try simp only [zD] at ca fa sa
 try simp only [zS] at ca fa sa
 have za0:w.heap.size < wa.heap.size:=by omega
 have ya0:w.heap.size≤wa.heap.size:=by omega
 have ka0:=fun o => ca (w.heap.size) o (by omega)
 have ja0:=fun o => fa (w.heap.size) o (by omega)
 go_wp2_with fail;go_quiet (fail);go_wp2_with fail;refine bodyPost_ret (v:=.tuple #[.int .i64 (Ak s).q,.int .i64 (Ak s).t,.int .i64 ((Ak s).gap + (Ak s).t - (Ak s).q),.nilIface]) (by simp [results,Tryz.results234,go_sem, *]) rfl ⟨rfl,(by repeat (first | exact Gr.refl _ | apply Gr.alloc | apply Gr.drew | apply Gr.drewN | (refine Gr.setCell ?_ (by first | (simp;done) | (simp;omega)) _) | (refine Gr.trans ?_ (by assumption))))⟩
end Go.Proofs.YtdfelohjdkcpkaaGreatDoor
