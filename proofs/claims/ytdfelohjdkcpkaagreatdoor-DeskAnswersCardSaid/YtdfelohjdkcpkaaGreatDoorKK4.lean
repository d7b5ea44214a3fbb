/- plan: tasks and guests; the reference's Legal, LegalTask, LegalGuest. -/
import Derived.Test.YtdfelohjdkcpkaaGreatDoorKK3
set_option maxRecDepth 100000
set_option maxHeartbeats 3200000
namespace Go.Proofs.YtdfelohjdkcpkaaGreatDoor
open Go.RowKit
def Bh (l:List AA):Bool:=l.all AA.leg
theorem Ee (l:List AA) (s:AA):Bh (l ++ [s]) = (Bh l && s.leg):=by simp [Bh]
theorem Dt {l:List AA} (h:Bh l = true) {i:Nat} {s:AA} (hi:l[i]? = some s):s.leg = true:=List.all_eq_true.1 h _ (AL hi)
def AW (p:Int) (l:List AA):Bool:=decide (p = 1 ∨ p = 2) && decide (1≤l.length∧l.length≤8) && Bh l
theorem Dx (s:AA) (w:World) :
 Calls Tryz.prog 244 #[.agg #[.int .i64 s.c,.int .i64 s.p,.int .i64 s.d,.int .i64 s.s]] w fun e w' => e = .returned (.bool s.leg)∧Gr w w':=by
 cases h:s.leg
 ·have h:¬ (1≤s.c∧s.c≤s.d∧s.d≤s.p∧s.p≤256∧0≤s.s∧s.s≤s.c):=fun x => by rw [(AA.leg_iff _).2 x] at h;cases h
  go_enter Tryz.func244,Tryz.ntmps244;go_wp2;all_goals (go_ret;first | exact ⟨rfl,(Gr.refl _).alloc _⟩ | skip)
  all_goals (exact ⟨C5 (by simp;omega),(Gr.refl _).alloc _⟩)
 ·obtain ⟨h1,h2,h3,h4,h5,h6⟩:=(AA.leg_iff _).1 h;go_enter Tryz.func244,Tryz.ntmps244;go_wp2;go_ret;exact ⟨rfl,(Gr.refl _).alloc _⟩
theorem CM (s:Ao) (w:World) :
 Calls Tryz.prog 51 #[.agg #[.int .i64 s.k,.int .i64 s.q,.int .i64 s.t]] w fun e w' => e = .returned (.bool s.leg)∧Gr w w':=by
 cases h:s.leg
 ·have h:¬ (1≤s.k∧s.k≤3∧1≤s.q∧s.q≤s.t∧s.t≤256):=fun x => by rw [(Ao.leg_iff _).2 x] at h;cases h
  go_enter Tryz.func51,Tryz.ntmps51;go_wp2;all_goals (go_ret;first | exact ⟨rfl,(Gr.refl _).alloc _⟩ | skip)
  all_goals (exact ⟨C5 (by simp;omega),(Gr.refl _).alloc _⟩)
 ·obtain ⟨h1,h2,h3,h4,h5⟩:=(Ao.leg_iff _).1 h;go_enter Tryz.func51,Tryz.ntmps51;go_wp2;all_goals (go_ret;exact ⟨C5 (by first | rfl | (simp;done) | (simp;omega)),(Gr.refl _).alloc _⟩)
theorem Eu (s:AA) (w:World) :
 Calls Tryz.prog 98 #[.agg #[.int .i64 s.c,.int .i64 s.p,.int .i64 s.d,.int .i64 s.s]] w fun e w' => e = .returned (.bool s.leg)∧Gr w w':=by
 cases h:s.leg
 ·have h:¬ (1≤s.c∧s.c≤s.d∧s.d≤s.p∧s.p≤256∧0≤s.s∧s.s≤s.c):=fun x => by rw [(AA.leg_iff _).2 x] at h;cases h
  go_enter Tryz.func98,Tryz.ntmps98;go_wp2;all_goals (go_ret;first | exact ⟨rfl,(Gr.refl _).alloc _⟩ | skip)
  all_goals (exact ⟨C5 (by simp;omega),(Gr.refl _).alloc _⟩)
 ·obtain ⟨h1,h2,h3,h4,h5,h6⟩:=(AA.leg_iff _).1 h;go_enter Tryz.func98,Tryz.ntmps98;go_wp2;go_ret;exact ⟨rfl,(Gr.refl _).alloc _⟩
def AF (l:List AA):Bool:=Bh l && decide (l.length≤8)
theorem E5 {G:List Nat} {E:Nat→Addr} (a:Option Addr) (l:List AA) (c:Nat) (w:World) (hE:CK G E w) (i0:10 ∈ G) (hl:A1 w a l) (hm:l.length≤maxLen) (h:AF l = false) :
 Calls Tryz.prog 210 #[.slice a l.length c] w fun e w' => e = .returned (Value.iface 384 (.pointer (some (E 10))))∧Gr w w':=by
 unfold maxLen at hm;have h:=Lib.hid h;go_enter Tryz.func210,Tryz.ntmps210;go_wp2_with fail;go_loopw [7] (fun i wr => ∃ k:Nat,k≤l.length∧Bh (l.take k) = true∧i = .int .i64 k∧Gr w wr) (fun i _ => l.length - (intOf i).toNat);case atStart => exact ⟨0,Nat.zero_le _,rfl,rfl,Gr.refl _⟩
 case round =>
  obtain ⟨k,hk,hal,rfl,hg⟩:=hrel;have hal:=Lib.hid hal;by_cases hlt:k < l.length
  ·obtain ⟨s,hs⟩:=Ac l k hlt;obtain ⟨b,off,rfl,hb,h0,h1,h2,h3⟩:=(hl.gr hg) k s hs;cases hleg:s.leg
   ·have hc:=Dx s;rw [hleg] at hc;have hc:=Lib.hid hc;have hleg:=Lib.hid hleg;go_wp2_with fail;refine (hc.out _).mono ?_;rintro e wa ⟨rfl,ga⟩;obtain ⟨ca,fa,sa⟩:=ga.cells;try simp only [Aa] at ca fa sa
    try simp only [zL] at ca fa sa
    try simp only [zD] at ca fa sa
    try simp only [zS] at ca fa sa
    have e1:=((hE.gr hg).gr ((Gr.refl _).alloc (.cells #[.int .i64 s.c,.int .i64 s.p,.int .i64 s.d,.int .i64 s.s] 41))).gr ga;have e2:=e1.c0 i0;go_wp2_with fail;go_ret;exact ⟨rfl,(hg.alloc _).trans ga⟩
   ·have hc:=Dx s;rw [hleg] at hc;have hc:=Lib.hid hc;have hleg:=Lib.hid hleg;go_wp2_with fail;refine (hc.out _).mono ?_;rintro e wa ⟨rfl,ga⟩;obtain ⟨ca,fa,sa⟩:=ga.cells;try simp only [Aa] at ca fa sa
    try simp only [zL] at ca fa sa
    try simp only [zD] at ca fa sa
    try simp only [zS] at ca fa sa
    go_wp2_with fail;go_roundw;case rel => exact ⟨k + 1,by omega,by rw [Ae hs,Ee,hal.out,hleg.out];rfl,by go_num,(hg.alloc _).trans ga⟩
    case measure => simp [intOf];omega
  ·have e2:=(hE.gr hg).c0 i0;have h8:8 < l.length:=by
    have h1:l.take k = l:=List.take_of_length_le (by omega);have h2:=hal.out;have h3:=h.out;rw [h1] at h2;unfold AF at h3;rw [h2] at h3;simpa using h3
   go_wp2_with fail;go_ret;exact ⟨rfl,hg⟩
theorem EB (a:Option Addr) (l:List AA) (c:Nat) (w:World) (hl:A1 w a l) (h:AF l = true) :
 Calls Tryz.prog 210 #[.slice a l.length c] w fun e w' => e = .returned .nilIface∧Gr w w':=by
 simp only [AF,Bool.and_eq_true,decide_eq_true_eq] at h;obtain ⟨hal,h8⟩:=h;have hal:=Lib.hid hal;go_enter Tryz.func210,Tryz.ntmps210;go_wp2_with fail;go_loopw [7] (fun i wr => ∃ k:Nat,k≤l.length∧i = .int .i64 k∧Gr w wr) (fun i _ => l.length - (intOf i).toNat);case atStart => exact ⟨0,Nat.zero_le _,rfl,Gr.refl _⟩
 case round =>
  obtain ⟨k,hk,rfl,hg⟩:=hrel;by_cases hlt:k < l.length
  ·obtain ⟨s,hs⟩:=Ac l k hlt;obtain ⟨b,off,rfl,hb,h0,h1,h2,h3⟩:=(hl.gr hg) k s hs;have hc:=Dx s;rw [Dt hal.out hs] at hc;have hc:=Lib.hid hc;go_wp2_with fail;refine (hc.out _).mono ?_;rintro e wa ⟨rfl,ga⟩;obtain ⟨ca,fa,sa⟩:=ga.cells;try simp only [Aa] at ca fa sa
   try simp only [zL] at ca fa sa
   try simp only [zD] at ca fa sa
   try simp only [zS] at ca fa sa
   go_wp2_with fail;go_roundw;case rel => exact ⟨k + 1,by omega,by go_num,(hg.alloc _).trans ga⟩
   case measure => simp [intOf];omega
  ·go_wp2_with fail;go_ret;exact ⟨rfl,hg⟩
theorem Bj (p:Int) (l:List AA):AW p l = true ↔ (p = 1 ∨ p = 2)∧1≤l.length∧AF l = true:=by
 unfold AW AF;simp only [Bool.and_eq_true,decide_eq_true_eq];exact ⟨fun ⟨⟨a,b,c⟩,d⟩ => ⟨a,b,d,c⟩,fun ⟨a,b,d,c⟩ => ⟨⟨a,b,c⟩,d⟩⟩
theorem Ck (p:Int) (a:Option Addr) (l:List AA) (c:Nat) (w:World) (hl:A1 w a l) (h:AW p l = true) :
 Calls Tryz.prog 169 #[.int .i64 p,.slice a l.length c] w fun e w' => e = .returned .nilIface∧Gr w w':=by
 obtain ⟨hp,h1,h2⟩:=(Bj p l).1 h;have h2:=Lib.hid h2;clear h;have n1:((l.length:Int) == 0) = false:=by simp;intro hh;rw [hh] at h1;simp at h1
 rcases hp with rfl | rfl
 all_goals
  go_enter Tryz.func169,Tryz.ntmps169;go_wp2_with fail;refine (EB a l c _ hl h2.out).mono ?_;rintro e wa ⟨rfl,ga⟩;obtain ⟨ca,fa,sa⟩:=ga.cells;try simp only [Aa] at ca fa sa
  try simp only [zL] at ca fa sa
  try simp only [zD] at ca fa sa
  try simp only [zS] at ca fa sa
  go_wp2_with fail;go_ret;exact ⟨rfl,ga⟩
theorem E6 {G:List Nat} {E:Nat→Addr} (p:Int) (a:Option Addr) (l:List AA) (c:Nat) (w:World) (hE:CK G E w) (i0:10 ∈ G) (hl:A1 w a l) (hm:l.length≤maxLen) (h:AW p l = false) :
 Calls Tryz.prog 169 #[.int .i64 p,.slice a l.length c] w fun e w' => e = .returned (Value.iface 384 (.pointer (some (E 10))))∧Gr w w':=by
 have e2:=hE.c0 i0;by_cases hp:p = 1 ∨ p = 2
 ·by_cases h1:l.length = 0
  ·have n1:((l.length:Int) == 0) = true:=by simp;exact List.length_eq_zero_iff.1 h1
   have h1:=Lib.hid h1;rcases hp with rfl | rfl
   all_goals
    go_enter Tryz.func169,Tryz.ntmps169;go_wp2_with fail;go_ret;exact ⟨rfl,Gr.refl _⟩
  ·have n1:((l.length:Int) == 0) = false:=by simp;intro hh;rw [hh] at h1;simp at h1
   have h2:AF l = false:=by
    cases hh:AF l
    ·rfl
    ·rw [(Bj p l).2 ⟨hp,by omega,hh⟩] at h;cases h
   have h2:=Lib.hid h2;clear h;rcases hp with rfl | rfl
   all_goals
    go_enter Tryz.func169,Tryz.ntmps169;go_wp2_with fail;refine (E5 a l c _ hE i0 hl hm h2.out).mono ?_;rintro e wa ⟨rfl,ga⟩;obtain ⟨ca,fa,sa⟩:=ga.cells;try simp only [Aa] at ca fa sa
    try simp only [zL] at ca fa sa
    try simp only [zD] at ca fa sa
    try simp only [zS] at ca fa sa
    go_wp2_with fail;go_ret;exact ⟨rfl,ga⟩
 ·have q1:(p != 1) = true:=by simp;omega
  have q2:(p != 2) = true:=by simp;omega
  clear hp h;go_enter Tryz.func169,Tryz.ntmps169;go_wp2_with fail;go_ret;exact ⟨rfl,Gr.refl _⟩
theorem G8 (p:Int) (a:Option Addr) (l:List AA) (c:Nat) (w:World) (hl:A1 w a l) (hm:l.length≤maxLen) (h:¬ ((p = 1 ∨ p = 2)∧1≤l.length∧l.length≤8)) :
 Calls Tryz.prog 52 #[.int .i64 p,.slice a l.length c] w fun e w' => e = .returned (.bool false)∧Gr w w':=by
 unfold maxLen at hm;have hcase:(¬ p = 1∧¬ p = 2) ∨ p = 1∧(l.length = 0 ∨ 8 < l.length) ∨ p = 2∧(l.length = 0 ∨ 8 < l.length):=by omega
 clear h;have hz:l.length = 0 ∨ 8 < l.length→(1≤(l.length:Int)→8 < (l.length:Int)):=by omega
 rcases hcase with ⟨h1,h2⟩ | ⟨rfl,hq⟩ | ⟨rfl,hq⟩
 ·have q1:(p == 1) = false:=by simpa using h1
  have q2:(p == 2) = false:=by simpa using h2
  clear h1 h2 hz;go_enter Tryz.func52,Tryz.ntmps52;go_wp2_with fail;go_loopw [26,5] (fun i v wr => ∃ k:Nat,k≤l.length∧i = .int .i64 k∧v = .bool false∧Gr w wr) (fun i _ _ => l.length - (intOf i).toNat);case atStart => exact ⟨0,Nat.zero_le _,rfl,rfl,Gr.refl _⟩
  case round =>
   obtain ⟨k,hk,rfl,rfl,hg⟩:=hrel;by_cases hlt:k < l.length
   ·obtain ⟨s,hs⟩:=Ac l k hlt;obtain ⟨b,off,rfl,hb,h0,h1,h2,h3⟩:=(hl.gr hg) k s hs;go_wp2_with fail;go_roundw;case rel => exact ⟨k + 1,by omega,by go_num,rfl,hg.alloc _⟩
    case measure => simp [intOf];omega
   ·go_wp2_with fail;go_ret;exact ⟨rfl,hg⟩
 all_goals
  have hz:=Lib.hid (hz hq);rcases hq with hq | hq
  ·obtain rfl:l = []:=List.length_eq_zero_iff.1 hq;clear hq;go_enter Tryz.func52,Tryz.ntmps52;go_wp2_with fail;refine wp_loop_rounds 1 ?_;rw [rounds_succ];go_wp2_with fail;go_ret;exact ⟨rfl,Gr.refl _⟩
  ·have d1:decide (1≤(l.length:Int)) = true:=by simp;omega
   have d8:decide ((l.length:Int)≤8) = false:=by simp;omega
   go_enter Tryz.func52,Tryz.ntmps52;go_wp2_with fail;go_loopw [26,5] (fun i v wr => ∃ k:Nat,k≤l.length∧i = .int .i64 k∧v = .bool false∧Gr w wr) (fun i _ _ => l.length - (intOf i).toNat);case atStart => exact ⟨0,Nat.zero_le _,rfl,rfl,Gr.refl _⟩
   case round =>
    obtain ⟨k,hk,rfl,rfl,hg⟩:=hrel;by_cases hlt:k < l.length
    ·obtain ⟨s,hs⟩:=Ac l k hlt;obtain ⟨b,off,rfl,hb,h0,h1,h2,h3⟩:=(hl.gr hg) k s hs;go_wp2_with fail;go_roundw;case rel => exact ⟨k + 1,by omega,by go_num,rfl,hg.alloc _⟩
     case measure => simp [intOf];omega
    ·go_wp2_with fail;go_ret;exact ⟨rfl,hg⟩
theorem Gw (p:Int) (a:Option Addr) (l:List AA) (c:Nat) (w:World) (hl:A1 w a l) (hp:p = 1 ∨ p = 2) (h1:1≤l.length) (h8:l.length≤8) :
 Calls Tryz.prog 52 #[.int .i64 p,.slice a l.length c] w fun e w' => e = .returned (.bool (Bh l))∧Gr w w':=by
 have d1:decide (1≤(l.length:Int)) = true:=by simp;omega
 have d8:decide ((l.length:Int)≤8) = true:=by simp;omega
 rcases hp with rfl | rfl
 all_goals
  go_enter Tryz.func52,Tryz.ntmps52;go_wp2_with fail;go_loopw [26,5] (fun i v wr => ∃ k:Nat,k≤l.length∧i = .int .i64 k∧v = .bool (Bh (l.take k))∧Gr w wr) (fun i _ _ => l.length - (intOf i).toNat);case atStart => exact ⟨0,Nat.zero_le _,rfl,rfl,Gr.refl _⟩
  case round =>
   obtain ⟨k,hk,rfl,rfl,hg⟩:=hrel;by_cases hlt:k < l.length
   ·obtain ⟨s,hs⟩:=Ac l k hlt;obtain ⟨b,off,rfl,hb,h0,h1,h2,h3⟩:=(hl.gr hg) k s hs;have hsn:Bh (l.take (k + 1)) = (Bh (l.take k) && s.leg):=by rw [Ae hs,Ee]
    have hsn:=Lib.hid hsn;cases hq:Bh (l.take k)
    ·rw [hq] at hsn;have hq:=Lib.hid hq;go_wp2_with fail;go_roundw;case rel => exact ⟨k + 1,by omega,by go_num,by rw [hsn.out];rfl,hg.alloc _⟩
     case measure => simp [intOf];omega
    ·rw [hq] at hsn;have hq:=Lib.hid hq;go_wp2_with fail;refine (Eu s _).mono ?_;rintro e wa ⟨rfl,ga⟩;obtain ⟨ca,fa,sa⟩:=ga.cells;try simp only [Aa] at ca fa sa
     try simp only [zL] at ca fa sa
     try simp only [zD] at ca fa sa
     try simp only [zS] at ca fa sa
     go_wp2_with fail;go_roundw;case rel => exact ⟨k + 1,by omega,by go_num,by rw [hsn.out];rfl,(hg.alloc _).trans ga⟩
     case measure => simp [intOf];omega
   ·have hall:l.take k = l:=List.take_of_length_le (by omega);rw [hall];go_wp2_with fail;go_ret;exact ⟨rfl,hg⟩
theorem Cv (p:Int) (a:Option Addr) (l:List AA) (c:Nat) (w:World) (hl:A1 w a l) (hm:l.length≤maxLen) :
 Calls Tryz.prog 52 #[.int .i64 p,.slice a l.length c] w fun e w' => e = .returned (.bool (AW p l))∧Gr w w':=by
 by_cases h:(p = 1 ∨ p = 2)∧1≤l.length∧l.length≤8
 ·have e:AW p l = Bh l:=by
   unfold AW;rw [decide_eq_true h.1,decide_eq_true h.2];rfl
  rw [e];exact Gw p a l c w hl h.1 h.2.1 h.2.2
 ·have e:AW p l = false:=by
   cases hh:AW p l
   ·rfl
   ·obtain ⟨x,y,z⟩:=(Bj p l).1 hh;unfold AF at z;simp only [Bool.and_eq_true,decide_eq_true_eq] at z;exact absurd ⟨x,y,z.2⟩ h
  rw [e];exact G8 p a l c w hl hm h
theorem G7 (n d q t:Int) (w:World) (hn:BC n) (hd:BC d) (h0:0 < d) (hq:0≤q) (hq':q≤4294967296) (ht:1≤t) (ht':t≤4294967296) (h1:BC (n * t + d * q)) (h2:BC (d * t)) :
 Calls Tryz.prog 177 #[.agg #[.int .u64 (AV n),.int .u64 (AR n),.int .u64 (AV d),.int .u64 (AR d)],.int .i64 q,.int .i64 t] w fun e w' => e = .returned (.agg #[.int .u64 (AV (n * t + d * q)),.int .u64 (AR (n * t + d * q)),.int .u64 (AV (d * t)),.int .u64 (AR (d * t))])∧Gr w w':=by
 go_enter Tryz.func177,Tryz.ntmps177;go_wp2_with fail;refine (Ms n d q t _ hn hd h0 hq hq' ht ht' h1 h2).mono ?_;rintro e wa ⟨rfl,ga⟩;obtain ⟨ca,fa,sa⟩:=ga.cells;try simp only [Aa] at ca fa sa
 try simp only [zL] at ca fa sa
 try simp only [zD] at ca fa sa
 try simp only [zS] at ca fa sa
 have za0:w.heap.size < wa.heap.size:=by omega
 have ya0:w.heap.size≤wa.heap.size:=by omega
 have ka0:=fun o => ca (w.heap.size) o (by omega)
 have ja0:=fun o => fa (w.heap.size) o (by omega)
 have za1:w.heap.size + 1 < wa.heap.size:=by omega
 have ka1:=fun o => ca (w.heap.size + 1) o (by omega)
 have ja1:=fun o => fa (w.heap.size + 1) o (by omega)
 go_wp2_with fail;refine bodyPost_ret (v:=.agg #[.int .u64 (AV (n * t + d * q)),.int .u64 (AR (n * t + d * q)),.int .u64 (AV (d * t)),.int .u64 (AR (d * t))]) (by simp (maxDischargeDepth:=8) [results,Tryz.results177,go_sem, *]) rfl ⟨rfl,?_⟩;repeat (first | exact Gr.refl _ | apply Gr.alloc | apply Gr.drew | apply Gr.drewN | (refine Gr.setCell ?_ (by simp) _) | (refine Gr.trans ?_ (by assumption)))
def Aq (l:List AA):Int × Int:=l.foldl (fun p s => CI p s.c s.p) (0,1)
theorem Er (l:List AA) (s:AA):Aq (l ++ [s]) = CI (Aq l) s.c s.p:=by
 unfold Aq;rw [List.foldl_append];rfl
theorem FR (l:List AA) (h:Bh l = true) (i:Nat) (hi:i≤l.length) :
 0≤(Aq (l.take i)).1∧(Aq (l.take i)).1≤i * CZ i∧1≤(Aq (l.take i)).2∧(Aq (l.take i)).2≤CZ i:=by
 induction i with
 | zero => rw [List.take_zero];exact ⟨by decide,by decide,by decide,by decide⟩
 | succ i ih =>
  obtain ⟨s,hs⟩:=Ac l i (by omega);have hl:=(AA.leg_iff _).1 (Dt h hs);rw [Ae hs,Er];have:=Hd (ih (by omega)) ⟨hl.1,Int.le_trans hl.2.1 hl.2.2.1,hl.2.2.2.1⟩;exact ⟨this.1,this.2.1,this.2.2.1,this.2.2.2.1⟩
theorem tasks_no {G:List Nat} {E:Nat→Addr} (a:Option Addr) (l:List AA) (c:Nat) (w:World) (hE:CK G E w) (i1:10 ∈ G) (hl:A1 w a l) (hm:l.length≤maxLen) (h:AF l = false) :
 Calls Tryz.prog 212 #[.slice a l.length c] w fun e w' => e = .returned (.tuple #[C2,(Value.iface 384 (.pointer (some (E 10))))])∧Gr w w':=by
 replace h:=zH h;go_enter Tryz.func212,Tryz.ntmps212;go_wp2_with fail;refine (E5 a l c _ (hE.gr ((Gr.refl w).alloc _)) i1 (hl.gr ((Gr.refl w).alloc _)) hm h.out).mono ?_;rintro e wa ⟨rfl,ga⟩;obtain ⟨ca,fa,sa⟩:=ga.cells;try simp only [Aa] at ca fa sa
 try simp only [zL] at ca fa sa
 try simp only [zD] at ca fa sa
 try simp only [zS] at ca fa sa
 have za0:w.heap.size < wa.heap.size:=by omega
 have ya0:w.heap.size≤wa.heap.size:=by omega
 have ka0:=fun o => ca (w.heap.size) o (by omega)
 have ja0:=fun o => fa (w.heap.size) o (by omega)
 go_wp2_with fail;refine bodyPost_ret (v:=.tuple #[C2,(Value.iface 384 (.pointer (some (E 10))))]) (by simp (maxDischargeDepth:=8) [results,Tryz.results212,go_sem, *]) rfl ⟨rfl,?_⟩;repeat (first | exact Gr.refl _ | apply Gr.alloc | apply Gr.drew | apply Gr.drewN | (refine Gr.setCell ?_ (by simp) _) | (refine Gr.trans ?_ (by assumption)))
theorem DE (a:Option Addr) (l:List AA) (c:Nat) (w:World) (hl:A1 w a l) (hok:AF l = true) :
 Calls Tryz.prog 212 #[.slice a l.length c] w fun e w' => e = .returned (.tuple #[Eg (Aq l),.nilIface])∧Gr w w':=by
 have hok':=hok;simp only [AF,Bool.and_eq_true,decide_eq_true_eq] at hok';obtain ⟨h,h8⟩:=hok';replace hok:=zH hok;go_enter Tryz.func212,Tryz.ntmps212;go_wp2_with fail;refine (EB a l c _ (hl.gr ((Gr.refl w).alloc _)) hok.out).mono ?_;rintro e wa ⟨rfl,ga⟩;obtain ⟨ca,fa,sa⟩:=ga.cells;try simp only [Aa] at ca fa sa
 try simp only [zL] at ca fa sa
 try simp only [zD] at ca fa sa
 try simp only [zS] at ca fa sa
 have za0:w.heap.size < wa.heap.size:=by omega
 have ya0:w.heap.size≤wa.heap.size:=by omega
 have ka0:=fun o => ca (w.heap.size) o (by omega)
 have ja0:=fun o => fa (w.heap.size) o (by omega)
 go_wp2_with fail;refine (Gl _).mono ?_;rintro e wb ⟨rfl,gb⟩;obtain ⟨cb,fb,sb⟩:=gb.cells;try simp only [Aa] at cb fb sb
 try simp only [zL] at cb fb sb
 try simp only [zD] at cb fb sb
 try simp only [zS] at cb fb sb
 have zb0:w.heap.size < wb.heap.size:=by omega
 have yb0:w.heap.size≤wb.heap.size:=by omega
 have kb0:=fun o => cb (w.heap.size) o (by omega)
 have jb0:=fun o => fb (w.heap.size) o (by omega)
 go_wp2_with fail;have gb0:Gr w wb:=(((Gr.refl w).alloc _).trans ga).trans gb;go_loopw [17] (fun i wx => ∃ j:Nat,j≤l.length∧i = .int .i64 j∧Gr wb wx∧wb.heap.size < wx.heap.size∧(∀ o,wx.frozen? ⟨wb.heap.size,o,none⟩ = false)∧wx.cell? ⟨wb.heap.size,0,none⟩ = some (.int .u64 (AV (Aq (l.take j)).1))∧wx.cell? ⟨wb.heap.size,1,none⟩ = some (.int .u64 (AR (Aq (l.take j)).1))∧wx.cell? ⟨wb.heap.size,2,none⟩ = some (.int .u64 (AV (Aq (l.take j)).2))∧wx.cell? ⟨wb.heap.size,3,none⟩ = some (.int .u64 (AR (Aq (l.take j)).2))) (fun i _ => l.length - (intOf i).toNat);case atStart => exact ⟨0,Nat.zero_le _,rfl,(Gr.refl _).alloc _,by simp,by simp [go_sem],by simp [go_sem];rfl,by simp [go_sem];rfl,by simp [go_sem];rfl,by simp [go_sem];rfl⟩
 case round =>
  obtain ⟨j,hj,rfl,gx,zx,fx,x0,x1,x2,x3⟩:=hrel;have hgx:Gr w wr:=gb0.trans gx;obtain ⟨cx,fx',_⟩:=gx.cells;have zx0:w.heap.size < wr.heap.size:=by omega
  have bd:=FR l h j hj;by_cases hlt2:j < l.length
  ·obtain ⟨s,hs⟩:=Ac l j hlt2;obtain ⟨b,off,rfl,hb,h0,h1,h2,h3⟩:=(hl.gr hgx) j s hs;have hleg:=(AA.leg_iff _).1 (Dt h hs);obtain ⟨s1,s2,s3,s4,s5,s6,s7,s8,s9⟩:=D1 (by omega) bd ⟨hleg.1,Int.le_trans hleg.2.1 hleg.2.2.1,hleg.2.2.2.1⟩;have hsn:Aq (l.take (j + 1)) = CI (Aq (l.take j)) s.c s.p:=by rw [Ae hs,Er]
   have hsn:=Lib.hid hsn;generalize Aq (l.take j) = p at *;obtain ⟨n,d⟩:=p;dsimp only at s1 s2 s3 s4 s5 s6 s7 s8 s9 x0 x1 x2 x3;clear bd;go_wp2_with fail;refine (J2 n d s.c s.p _ s1 s2 s3 s4 s5 s6 s7 s8 s9).mono ?_;rintro e wp ⟨rfl,gp⟩;obtain ⟨cp,fp,sp⟩:=gp.cells;try simp only [Aa] at cp fp sp
   try simp only [zL] at cp fp sp
   try simp only [zD] at cp fp sp
   try simp only [zS] at cp fp sp
   have zp0:w.heap.size < wp.heap.size:=by omega
   have yp0:w.heap.size≤wp.heap.size:=by omega
   have kp0:=fun o => cp (w.heap.size) o (by omega)
   have jp0:=fun o => fp (w.heap.size) o (by omega)
   have zp1:wb.heap.size < wp.heap.size:=by omega
   have yp1:wb.heap.size≤wp.heap.size:=by omega
   have kp1:=fun o => cp (wb.heap.size) o (by omega)
   have jp1:=fun o => fp (wb.heap.size) o (by omega)
   go_wp2_with fail;go_roundw;case rel =>
    refine ⟨j + 1,by omega,by go_num,?_,by simp;omega,fun o => by simp [go_sem, *],?_,?_,?_,?_⟩
    ·have:=(gx.alloc (.cells #[.int .i64 s.c,.int .i64 s.p,.int .i64 s.d,.int .i64 s.s] 41)).trans gp;repeat (first | exact this | (refine Gr.setCell ?_ (by simp) _))
    all_goals (rw [hsn.out];simp (maxDischargeDepth:=8) [go_sem,CI, *])
   case measure => simp [intOf];omega
  ·have hj':j = l.length:=by omega
   subst hj';rw [List.take_length] at x0 x1 x2 x3;go_wp2_with fail;refine bodyPost_ret (v:=.tuple #[Eg (Aq l),.nilIface]) (by simp (maxDischargeDepth:=8) [results,Tryz.results212,go_sem, *]) rfl ⟨rfl,?_⟩;repeat (first | exact Gr.refl _ | apply Gr.alloc | apply Gr.drew | apply Gr.drewN | (refine Gr.setCell ?_ (by simp) _) | (refine Gr.trans ?_ (by assumption)))
abbrev z4:Obj:=.cells #[.int .u64 0,.int .u64 0,.int .u64 0,.int .u64 0] 195
abbrev z1:Obj:=.cells #[.int .u64 0,.int .u64 0,.int .u64 0,.int .u64 1] 195
theorem JO (a:Option Addr) (l:List Ao) (c:Nat) (w:World) (hl:AJ w a l) (hm:l.length≤maxLen) (h:AY l = false) :
 Calls Tryz.prog 171 #[.slice a l.length c] w fun e w' => e = .returned (.tuple #[C2,.int .i64 10])∧Gr w w':=by
 unfold maxLen at hm;replace h:=zH h;go_enter Tryz.func171,Tryz.ntmps171;go_wp2_with fail;go_loopw [13] (fun i wr => ∃ k:Nat,k≤l.length∧AY (l.take k) = true∧i = .int .i64 k∧Gr ((w.alloc z4).alloc z1) wr) (fun i _ => l.length - (intOf i).toNat);case atStart => exact ⟨0,Nat.zero_le _,rfl,rfl,Gr.refl _⟩
 case round =>
  obtain ⟨k,hk,hal,rfl,hg⟩:=hrel;replace hal:=zH hal;have hgw:Gr w wr:=(((Gr.refl _).alloc _).alloc _).trans hg;have zw:w.heap.size + 1 < wr.heap.size:=by have:=hg.size;simp at this;omega
  have zw0:w.heap.size < wr.heap.size:=by omega
  obtain ⟨cw,fw,_⟩:=hg.cells;simp only [zL] at cw fw;by_cases hlt:k < l.length
  ·obtain ⟨s,hs⟩:=Ac l k hlt;obtain ⟨b,off,rfl,hb,h0,h1,h2⟩:=(hl.gr hgw) k s hs;have hc:=CM s;cases hleg:s.leg
   ·rw [hleg] at hc;replace hc:=zH hc;replace hleg:=zH hleg;go_wp2_with fail;refine (hc.out _).mono ?_;rintro e wa ⟨rfl,ga⟩;obtain ⟨ca,fa,sa⟩:=ga.cells;try simp only [Aa] at ca fa sa
    try simp only [zL] at ca fa sa
    try simp only [zD] at ca fa sa
    try simp only [zS] at ca fa sa
    have za0:w.heap.size < wa.heap.size:=by omega
    have ya0:w.heap.size≤wa.heap.size:=by omega
    have ka0:=fun o => ca (w.heap.size) o (by omega)
    have ja0:=fun o => fa (w.heap.size) o (by omega)
    go_wp2_with fail;refine bodyPost_ret (v:=.tuple #[C2,.int .i64 10]) (by simp (maxDischargeDepth:=8) [results,Tryz.results171,go_sem, *]) rfl ⟨rfl,?_⟩;repeat (first | exact Gr.refl _ | apply Gr.alloc | apply Gr.drew | apply Gr.drewN | (refine Gr.setCell ?_ (by simp) _) | (refine Gr.trans ?_ (by assumption)))
   ·rw [hleg] at hc;replace hc:=zH hc;replace hleg:=zH hleg;go_wp2_with fail;refine (hc.out _).mono ?_;rintro e wa ⟨rfl,ga⟩;obtain ⟨ca,fa,sa⟩:=ga.cells;try simp only [Aa] at ca fa sa
    try simp only [zL] at ca fa sa
    try simp only [zD] at ca fa sa
    try simp only [zS] at ca fa sa
    have za0:w.heap.size < wa.heap.size:=by omega
    have ya0:w.heap.size≤wa.heap.size:=by omega
    have ka0:=fun o => ca (w.heap.size) o (by omega)
    have ja0:=fun o => fa (w.heap.size) o (by omega)
    go_wp2_with fail;go_roundw;case rel => exact ⟨k + 1,by omega,by rw [Ae hs,EE,hal.out,hleg.out];rfl,by go_num,(hg.alloc _).trans ga⟩
    case measure => simp [intOf];omega
  ·have h1:=hal.out;have h2:=h.out;have:l.take k = l:=List.take_of_length_le (by omega);rw [this,h2] at h1;cases h1
theorem HW (a:Option Addr) (l:List Ao) (c:Nat) (w:World) (hl:AJ w a l) (hm:l.length≤maxLen) (h:AY l = true) (h8:8 < l.length) :
 Calls Tryz.prog 171 #[.slice a l.length c] w fun e w' => e = .returned (.tuple #[C2,.int .i64 7])∧Gr w w':=by
 unfold maxLen at hm;replace h:=zH h;go_enter Tryz.func171,Tryz.ntmps171;go_wp2_with fail;go_loopw [13] (fun i wr => ∃ k:Nat,k≤l.length∧i = .int .i64 k∧Gr ((w.alloc z4).alloc z1) wr) (fun i _ => l.length - (intOf i).toNat);case atStart => exact ⟨0,Nat.zero_le _,rfl,Gr.refl _⟩
 case round =>
  obtain ⟨k,hk,rfl,hg⟩:=hrel;have hgw:Gr w wr:=(((Gr.refl _).alloc _).alloc _).trans hg;have zw:w.heap.size + 1 < wr.heap.size:=by have:=hg.size;simp at this;omega
  have zw0:w.heap.size < wr.heap.size:=by omega
  obtain ⟨cw,fw,_⟩:=hg.cells;simp only [zL] at cw fw;by_cases hlt:k < l.length
  ·obtain ⟨s,hs⟩:=Ac l k hlt;obtain ⟨b,off,rfl,hb,h0,h1,h2⟩:=(hl.gr hgw) k s hs;have hc:=CM s;rw [Bp h.out hs] at hc;replace hc:=zH hc;go_wp2_with fail;refine (hc.out _).mono ?_;rintro e wa ⟨rfl,ga⟩;obtain ⟨ca,fa,sa⟩:=ga.cells;try simp only [Aa] at ca fa sa
   try simp only [zL] at ca fa sa
   try simp only [zD] at ca fa sa
   try simp only [zS] at ca fa sa
   have za0:w.heap.size < wa.heap.size:=by omega
   have ya0:w.heap.size≤wa.heap.size:=by omega
   have ka0:=fun o => ca (w.heap.size) o (by omega)
   have ja0:=fun o => fa (w.heap.size) o (by omega)
   go_wp2_with fail;go_roundw;case rel => exact ⟨k + 1,by omega,by go_num,(hg.alloc _).trans ga⟩
   case measure => simp [intOf];omega
  ·go_wp2_with fail;refine bodyPost_ret (v:=.tuple #[C2,.int .i64 7]) (by simp (maxDischargeDepth:=8) [results,Tryz.results171,go_sem, *]) rfl ⟨rfl,?_⟩;repeat (first | exact Gr.refl _ | apply Gr.alloc | apply Gr.drew | apply Gr.drewN | (refine Gr.setCell ?_ (by simp) _) | (refine Gr.trans ?_ (by assumption)))
theorem I8 (a:Option Addr) (l:List Ao) (c:Nat) (w:World) (hl:AJ w a l) (h:AY l = true) (h8:l.length≤8) :
 Calls Tryz.prog 171 #[.slice a l.length c] w fun e w' => e = .returned (.tuple #[Eg (Ah l),.int .i64 0])∧Gr w w':=by
 go_enter Tryz.func171,Tryz.ntmps171;go_wp2_with fail;go_loopw [13] (fun i wr => ∃ k:Nat,k≤l.length∧i = .int .i64 k∧Gr ((w.alloc z4).alloc z1) wr) (fun i _ => l.length - (intOf i).toNat);case atStart => exact ⟨0,Nat.zero_le _,rfl,Gr.refl _⟩
 case round =>
  obtain ⟨k,hk,rfl,hg⟩:=hrel;have hgw:Gr w wr:=(((Gr.refl _).alloc _).alloc _).trans hg;have zw:w.heap.size + 1 < wr.heap.size:=by have:=hg.size;simp at this;omega
  have zw0:w.heap.size < wr.heap.size:=by omega
  obtain ⟨cw,fw,_⟩:=hg.cells;simp only [zL] at cw fw;by_cases hlt:k < l.length
  ·obtain ⟨s,hs⟩:=Ac l k hlt;obtain ⟨b,off,rfl,hb,h0,h1,h2⟩:=(hl.gr hgw) k s hs;have hc:=CM s;rw [Bp h hs] at hc;replace hc:=zH hc;go_wp2_with fail;refine (hc.out _).mono ?_;rintro e wa ⟨rfl,ga⟩;obtain ⟨ca,fa,sa⟩:=ga.cells;try simp only [Aa] at ca fa sa
   try simp only [zL] at ca fa sa
   try simp only [zD] at ca fa sa
   try simp only [zS] at ca fa sa
   have za0:w.heap.size < wa.heap.size:=by omega
   have ya0:w.heap.size≤wa.heap.size:=by omega
   have ka0:=fun o => ca (w.heap.size) o (by omega)
   have ja0:=fun o => fa (w.heap.size) o (by omega)
   go_wp2_with fail;go_roundw;case rel => exact ⟨k + 1,by omega,by go_num,(hg.alloc _).trans ga⟩
   case measure => simp [intOf];omega
  ·go_wp2_with fail;obtain ⟨wo,rfl⟩:∃ wo:World,wo = wr:=⟨_,rfl⟩
   have q0:wo.cell? ⟨w.heap.size,0,none⟩ = some (.int .u64 0):=by simp [go_sem, *]
   have q1:wo.cell? ⟨w.heap.size,1,none⟩ = some (.int .u64 0):=by simp [go_sem, *]
   have q2:wo.cell? ⟨w.heap.size,2,none⟩ = some (.int .u64 0):=by simp [go_sem, *]
   have q3:wo.cell? ⟨w.heap.size,3,none⟩ = some (.int .u64 0):=by simp [go_sem, *]
   have qf:∀ o,wo.frozen? ⟨w.heap.size,o,none⟩ = false:=fun o => by simp [go_sem, *]
   have p0:wo.cell? ⟨w.heap.size + 1,0,none⟩ = some (.int .u64 (AV (Ah (l.take 0)).1)):=by simp [go_sem, *];rfl
   have p1:wo.cell? ⟨w.heap.size + 1,1,none⟩ = some (.int .u64 (AR (Ah (l.take 0)).1)):=by simp [go_sem, *];rfl
   have p2:wo.cell? ⟨w.heap.size + 1,2,none⟩ = some (.int .u64 (AV (Ah (l.take 0)).2)):=by simp [go_sem, *];rfl
   have p3:wo.cell? ⟨w.heap.size + 1,3,none⟩ = some (.int .u64 (AR (Ah (l.take 0)).2)):=by simp [go_sem, *];rfl
   have pf:∀ o,wo.frozen? ⟨w.heap.size + 1,o,none⟩ = false:=fun o => by simp [go_sem, *]
   clear cw fw hg;go_loopw [28] (fun i wx => ∃ j:Nat,j≤l.length∧i = .int .i64 j∧Gr w wx∧w.heap.size + 1 < wx.heap.size∧(∀ o,wx.frozen? ⟨w.heap.size,o,none⟩ = false)∧wx.cell? ⟨w.heap.size,0,none⟩ = some (.int .u64 0)∧wx.cell? ⟨w.heap.size,1,none⟩ = some (.int .u64 0)∧wx.cell? ⟨w.heap.size,2,none⟩ = some (.int .u64 0)∧wx.cell? ⟨w.heap.size,3,none⟩ = some (.int .u64 0)∧(∀ o,wx.frozen? ⟨w.heap.size + 1,o,none⟩ = false)∧wx.cell? ⟨w.heap.size + 1,0,none⟩ = some (.int .u64 (AV (Ah (l.take j)).1))∧wx.cell? ⟨w.heap.size + 1,1,none⟩ = some (.int .u64 (AR (Ah (l.take j)).1))∧wx.cell? ⟨w.heap.size + 1,2,none⟩ = some (.int .u64 (AV (Ah (l.take j)).2))∧wx.cell? ⟨w.heap.size + 1,3,none⟩ = some (.int .u64 (AR (Ah (l.take j)).2))) (fun i _ => l.length - (intOf i).toNat);case atStart => exact ⟨0,Nat.zero_le _,rfl,hgw,zw,qf,q0,q1,q2,q3,pf,p0,p1,p2,p3⟩
   case round =>
    clear q0 q1 q2 q3 qf p0 p1 p2 p3 pf hgw zw zw0;obtain ⟨j,hj,rfl,gx,zx,qf,q0,q1,q2,q3,fx,x0,x1,x2,x3⟩:=hrel;have zx0:w.heap.size < wr.heap.size:=by omega
    have bd:=FS l h j hj;by_cases hlt2:j < l.length
    ·obtain ⟨s,hs⟩:=Ac l j hlt2;obtain ⟨b,off,rfl,hb,h0,h1,h2⟩:=(hl.gr gx) j s hs;have hleg:=(Ao.leg_iff _).1 (Bp h hs);obtain ⟨s1,s2,s3,s4,s5,s6,s7,s8,s9⟩:=D1 (by omega) bd ⟨hleg.2.2.1,hleg.2.2.2.1,hleg.2.2.2.2⟩;have hsn:Ah (l.take (j + 1)) = CI (Ah (l.take j)) s.q s.t:=by rw [Ae hs,CU]
     replace hsn:=zH hsn;generalize Ah (l.take j) = p at *;obtain ⟨n,d⟩:=p;dsimp only at s1 s2 s3 s4 s5 s6 s7 s8 s9 x0 x1 x2 x3;clear bd;go_wp2_with fail;refine (G7 n d s.q s.t _ s1 s2 s3 s4 s5 s6 s7 s8 s9).mono ?_;rintro e wp ⟨rfl,gp⟩;obtain ⟨cp,fp,sp⟩:=gp.cells;try simp only [Aa] at cp fp sp
     try simp only [zL] at cp fp sp
     try simp only [zD] at cp fp sp
     try simp only [zS] at cp fp sp
     have zp0:w.heap.size < wp.heap.size:=by omega
     have yp0:w.heap.size≤wp.heap.size:=by omega
     have kp0:=fun o => cp (w.heap.size) o (by omega)
     have jp0:=fun o => fp (w.heap.size) o (by omega)
     have zp1:w.heap.size + 1 < wp.heap.size:=by omega
     have kp1:=fun o => cp (w.heap.size + 1) o (by omega)
     have jp1:=fun o => fp (w.heap.size + 1) o (by omega)
     go_wp2_with fail;go_roundw;case rel =>
      refine ⟨j + 1,by omega,by go_num,?_,by simp;omega,fun o => by simp [go_sem, *],?_,?_,?_,?_,fun o => by simp [go_sem, *],?_,?_,?_,?_⟩
      focus
       repeat (first | exact Gr.refl _ | apply Gr.alloc | apply Gr.drew | apply Gr.drewN | (refine Gr.setCell ?_ (by simp) _) | (refine Gr.trans ?_ (by assumption)))
      all_goals (first | (simp (maxDischargeDepth:=8) [go_sem, *];done) | (rw [hsn.out];simp (maxDischargeDepth:=8) [go_sem,CI, *]))
     case measure => simp [intOf];omega
    ·have hj':j = l.length:=by omega
     subst hj';rw [List.take_length] at x0 x1 x2 x3;go_wp2_with fail;refine bodyPost_ret (v:=.tuple #[Eg (Ah l),.int .i64 0]) (by simp (maxDischargeDepth:=8) [results,Tryz.results171,go_sem, *]) rfl ⟨rfl,?_⟩;repeat (first | exact Gr.refl _ | apply Gr.alloc | apply Gr.drew | apply Gr.drewN | (refine Gr.setCell ?_ (by simp) _) | (refine Gr.trans ?_ (by assumption)))
def Bm (l:List Ao):Option Nat:=if AY l = false then some 9 else if 8 < l.length then some 6 else none
def DW (l:List AA):Option Nat:=if AF l = false then some 10 else none
def numO:Option Nat→Int
 | none => 0
 | some g => numI g
def Ok (E:Nat→Addr):Option Nat→Value
 | none => .nilIface
 | some g => Hy E g
def pw (o:Option Nat) (p:Int × Int) (i:Nat):Int :=
 match o with
 | some _ => 0
 | none => match i with
  | 0 => AV p.1
  | 1 => AR p.1
  | 2 => AV p.2
  | _ => AR p.2
abbrev pv (o:Option Nat) (p:Int × Int):Value:=.agg #[.int .u64 (pw o p 0),.int .u64 (pw o p 1),.int .u64 (pw o p 2),.int .u64 (pw o p 3)]
theorem OS {G:List Nat} {E:Nat→Addr} (a:Option Addr) (l:List Ao) (c:Nat) (w:World) (hE:CK G E w) (hG:∀ x ∈ errNos,x ∈ G) (hl:AJ w a l) (hm:l.length≤maxLen) :
 Calls Tryz.prog 200 #[.slice a l.length c] w fun e w' => e = .returned (.tuple #[pv (Bm l) (Ah l),Ok E (Bm l)])∧Gr w w':=by
 unfold Bm;split
 ·rename_i h;exact G5 a l c w hE (hG _ (by decide)) hl hm h
 ·rename_i h;have h:AY l = true:=by simpa using h
  split
  ·rename_i h8;exact Ft a l c w hE (hG _ (by decide)) hl hm h h8
  ·rename_i h8;exact CV a l c w hl h (by omega)
theorem GW {l:List AA} (h:Bh l = false ∨ 8 < l.length):DW l = some 10:=by
 unfold DW AF;rw [if_pos];rcases h with h | h
 ·rw [h];rfl
 ·rw [decide_eq_false (by omega),Bool.and_false]
theorem JC {l:List AA} (h:Bh l = true) (h8:l.length≤8):DW l = none:=by
 unfold DW AF;rw [if_neg];rw [h,decide_eq_true h8];decide
theorem KH {l:List AA} {i:Nat} {s:AA} (hi:l[i]? = some s) (h:s.leg = false):Bh l = false:=by
 cases hh:Bh l
 ·rfl
 ·rw [Dt hh hi] at h;cases h
theorem KW (l:List AA) (i:Nat) (hi:i≤l.length) (h:Bh (l.take i) = true) :
 0≤(Aq (l.take i)).1∧(Aq (l.take i)).1≤i * CZ i∧1≤(Aq (l.take i)).2∧(Aq (l.take i)).2≤CZ i:=by
 have:=FR (l.take i) h i (by rw [List.length_take];omega)
 rwa [List.take_take,Nat.min_self] at this
theorem Mz (a:Option Addr) (l:List AA) (c:Nat) (w:World) (hl:A1 w a l) (hm:l.length≤maxLen) :
 Calls Tryz.prog 105 #[.slice a l.length c] w fun e w' => e = .returned (.tuple #[pv (DW l) (Aq l),.int .i64 (numO (DW l))])∧Gr w w':=by
 unfold maxLen at hm;go_enter Tryz.func105,Tryz.ntmps105;go_wp2_with fail;go_loopw [11] (fun i wx => ∃ j:Nat,j≤l.length∧(j = 0 ∨ l.length≤8)∧Bh (l.take j) = true∧i = .int .i64 j∧Gr w wx∧w.heap.size + 1 < wx.heap.size∧(∀ o,wx.frozen? ⟨w.heap.size,o,none⟩ = false)∧wx.cell? ⟨w.heap.size,0,none⟩ = some (.int .u64 0)∧wx.cell? ⟨w.heap.size,1,none⟩ = some (.int .u64 0)∧wx.cell? ⟨w.heap.size,2,none⟩ = some (.int .u64 0)∧wx.cell? ⟨w.heap.size,3,none⟩ = some (.int .u64 0)∧(∀ o,wx.frozen? ⟨w.heap.size + 1,o,none⟩ = false)∧wx.cell? ⟨w.heap.size + 1,0,none⟩ = some (.int .u64 (AV (Aq (l.take j)).1))∧wx.cell? ⟨w.heap.size + 1,1,none⟩ = some (.int .u64 (AR (Aq (l.take j)).1))∧wx.cell? ⟨w.heap.size + 1,2,none⟩ = some (.int .u64 (AV (Aq (l.take j)).2))∧wx.cell? ⟨w.heap.size + 1,3,none⟩ = some (.int .u64 (AR (Aq (l.take j)).2))) (fun i _ => l.length - (intOf i).toNat);case atStart => exact ⟨0,Nat.zero_le _,.inl rfl,rfl,rfl,((Gr.refl _).alloc _).alloc _,by simp,fun o => by simp [go_sem],by simp [go_sem],by simp [go_sem],by simp [go_sem],by simp [go_sem],fun o => by simp [go_sem],by simp [go_sem];rfl,by simp [go_sem];rfl,by simp [go_sem];rfl,by simp [go_sem];rfl⟩
 case round =>
  obtain ⟨j,hj,hj8,hal,rfl,gx,zx,qf,q0,q1,q2,q3,fx,x0,x1,x2,x3⟩:=hrel;have zx0:w.heap.size < wr.heap.size:=by omega
  have bd:=KW l j hj hal;replace hal:=zH hal;by_cases hlt2:j < l.length
  ·obtain ⟨s,hs⟩:=Ac l j hlt2;obtain ⟨b,off,rfl,hb,h0,h1,h2,h3⟩:=(hl.gr gx) j s hs;have hc:=Eu s;by_cases h8:8 < l.length
   ·have ht:=GW (.inr h8);replace ht:=zH ht;clear bd hj8;cases hleg:s.leg
    all_goals
     rw [hleg] at hc;replace hc:=zH hc;replace hleg:=zH hleg;go_wp2_with fail;refine (hc.out _).mono ?_;rintro e wa ⟨rfl,ga⟩;obtain ⟨ca,fa,sa⟩:=ga.cells;try simp only [Aa] at ca fa sa
     try simp only [zL] at ca fa sa
     try simp only [zD] at ca fa sa
     try simp only [zS] at ca fa sa
     have za0:w.heap.size < wa.heap.size:=by omega
     have ya0:w.heap.size≤wa.heap.size:=by omega
     have ka0:=fun o => ca (w.heap.size) o (by omega)
     have ja0:=fun o => fa (w.heap.size) o (by omega)
     have za1:w.heap.size + 1 < wa.heap.size:=by omega
     have ka1:=fun o => ca (w.heap.size + 1) o (by omega)
     have ja1:=fun o => fa (w.heap.size + 1) o (by omega)
     go_wp2_with fail;refine bodyPost_ret (v:=.tuple #[C2,.int .i64 11]) (by simp (maxDischargeDepth:=8) [results,Tryz.results105,go_sem, *]) rfl ⟨by rw [ht.out];rfl,?_⟩;repeat (first | exact Gr.refl _ | apply Gr.alloc | apply Gr.drew | apply Gr.drewN | (refine Gr.setCell ?_ (by simp) _) | (refine Gr.trans ?_ (by assumption)))
   ·cases hleg:s.leg
    ·have ht:=GW (.inl (KH hs hleg));replace ht:=zH ht;clear bd hj8;rw [hleg] at hc;replace hc:=zH hc;replace hleg:=zH hleg;go_wp2_with fail;refine (hc.out _).mono ?_;rintro e wa ⟨rfl,ga⟩;obtain ⟨ca,fa,sa⟩:=ga.cells;try simp only [Aa] at ca fa sa
     try simp only [zL] at ca fa sa
     try simp only [zD] at ca fa sa
     try simp only [zS] at ca fa sa
     have za0:w.heap.size < wa.heap.size:=by omega
     have ya0:w.heap.size≤wa.heap.size:=by omega
     have ka0:=fun o => ca (w.heap.size) o (by omega)
     have ja0:=fun o => fa (w.heap.size) o (by omega)
     have za1:w.heap.size + 1 < wa.heap.size:=by omega
     have ka1:=fun o => ca (w.heap.size + 1) o (by omega)
     have ja1:=fun o => fa (w.heap.size + 1) o (by omega)
     go_wp2_with fail;refine bodyPost_ret (v:=.tuple #[C2,.int .i64 11]) (by simp (maxDischargeDepth:=8) [results,Tryz.results105,go_sem, *]) rfl ⟨by rw [ht.out];rfl,?_⟩;repeat (first | exact Gr.refl _ | apply Gr.alloc | apply Gr.drew | apply Gr.drewN | (refine Gr.setCell ?_ (by simp) _) | (refine Gr.trans ?_ (by assumption)))
    ·have hleg1:=(AA.leg_iff _).1 hleg;obtain ⟨s1,s2,s3,s4,s5,s6,s7,s8,s9⟩:=D1 (by omega) bd ⟨hleg1.1,Int.le_trans hleg1.2.1 hleg1.2.2.1,hleg1.2.2.2.1⟩;have hsn:Aq (l.take (j + 1)) = CI (Aq (l.take j)) s.c s.p:=by rw [Ae hs,Er]
     have hal2:Bh (l.take (j + 1)) = true:=by rw [Ae hs,Ee,hal.out,hleg];rfl
     replace hsn:=zH hsn;replace hal2:=zH hal2;rw [hleg] at hc;replace hc:=zH hc;replace hleg:=zH hleg;generalize Aq (l.take j) = p at *;obtain ⟨n,d⟩:=p;dsimp only at s1 s2 s3 s4 s5 s6 s7 s8 s9 x0 x1 x2 x3;clear bd;go_wp2_with fail;refine (hc.out _).mono ?_;rintro e wa ⟨rfl,ga⟩;obtain ⟨ca,fa,sa⟩:=ga.cells;try simp only [Aa] at ca fa sa
     try simp only [zL] at ca fa sa
     try simp only [zD] at ca fa sa
     try simp only [zS] at ca fa sa
     have za0:w.heap.size < wa.heap.size:=by omega
     have ya0:w.heap.size≤wa.heap.size:=by omega
     have ka0:=fun o => ca (w.heap.size) o (by omega)
     have ja0:=fun o => fa (w.heap.size) o (by omega)
     have za1:w.heap.size + 1 < wa.heap.size:=by omega
     have ka1:=fun o => ca (w.heap.size + 1) o (by omega)
     have ja1:=fun o => fa (w.heap.size + 1) o (by omega)
     have za2:wr.heap.size < wa.heap.size:=by omega
     have ya2:wr.heap.size≤wa.heap.size:=by omega
     have ka2:=fun o => ca (wr.heap.size) o (by omega)
     have ja2:=fun o => fa (wr.heap.size) o (by omega)
     go_wp2_with fail;refine (G7 n d s.c s.p _ s1 s2 s3 s4 s5 s6 s7 s8 s9).mono ?_;rintro e wp ⟨rfl,gp⟩;obtain ⟨cp,fp,sp⟩:=gp.cells;try simp only [Aa] at cp fp sp
     try simp only [zL] at cp fp sp
     try simp only [zD] at cp fp sp
     try simp only [zS] at cp fp sp
     have zp0:w.heap.size < wp.heap.size:=by omega
     have yp0:w.heap.size≤wp.heap.size:=by omega
     have kp0:=fun o => cp (w.heap.size) o (by omega)
     have jp0:=fun o => fp (w.heap.size) o (by omega)
     have zp1:w.heap.size + 1 < wp.heap.size:=by omega
     have kp1:=fun o => cp (w.heap.size + 1) o (by omega)
     have jp1:=fun o => fp (w.heap.size + 1) o (by omega)
     have zp2:wr.heap.size < wp.heap.size:=by omega
     have yp2:wr.heap.size≤wp.heap.size:=by omega
     have kp2:=fun o => cp (wr.heap.size) o (by omega)
     have jp2:=fun o => fp (wr.heap.size) o (by omega)
     go_wp2_with fail;go_roundw;case rel =>
      refine ⟨j + 1,by omega,.inr (by omega),hal2.out,by go_num,?_,by simp;omega,fun o => by simp [go_sem, *],?_,?_,?_,?_,fun o => by simp [go_sem, *],?_,?_,?_,?_⟩
      focus
       repeat (first | exact Gr.refl _ | apply Gr.alloc | apply Gr.drew | apply Gr.drewN | (refine Gr.setCell ?_ (by simp) _) | (refine Gr.trans ?_ (by assumption)))
      all_goals (first | (simp (maxDischargeDepth:=8) [go_sem, *];done) | (rw [hsn.out];simp (maxDischargeDepth:=8) [go_sem,CI, *]))
     case measure => simp [intOf];omega
  ·have hj':j = l.length:=by omega
   subst hj';rw [List.take_length] at x0 x1 x2 x3 hal;have ht:DW l = none:=JC hal.out (by rcases hj8 with h | h <;> omega);replace ht:=zH ht;go_wp2_with fail;refine bodyPost_ret (v:=.tuple #[Eg (Aq l),.int .i64 0]) (by simp (maxDischargeDepth:=8) [results,Tryz.results105,go_sem, *]) rfl ⟨by rw [ht.out];rfl,?_⟩;repeat (first | exact Gr.refl _ | apply Gr.alloc | apply Gr.drew | apply Gr.drewN | (refine Gr.setCell ?_ (by simp) _) | (refine Gr.trans ?_ (by assumption)))
def OJ (o:Option Nat) (s:Ao):Bool:=(o == none) && (decide (s.k = 0∧s.q = 0∧s.t = 0) || s.leg)
def ND (o:Option Nat) (p:Int × Int) (s:Ao):Int:=if OJ o s = true then (if s.k = 0∧s.q = 0∧s.t = 0 then BS p.1 p.2 else BS (p.1 * s.t) (p.2 * s.q)) else 0
theorem KP {G:List Nat} {E:Nat→Addr} (a b c d:Int) (s:Ao) (w:World) (hE:CK G E w) (i0:9 ∈ G) (hs:s.leg = false) (hz:¬ (s.k = 0∧s.q = 0∧s.t = 0)) :
 Calls Tryz.prog 235 #[.agg #[.int .u64 a,.int .u64 b,.int .u64 c,.int .u64 d],.agg #[.int .i64 s.k,.int .i64 s.q,.int .i64 s.t]] w fun e w' => e = .returned (.tuple #[.int .i64 0,.bool false])∧Gr w w':=by
 obtain ⟨k,q,t⟩:=s;dsimp only at hz ⊢;replace hs:=zH hs;have hE2:=hE.gr (((Gr.refl w).alloc (.cells #[.int .u64 a,.int .u64 b,.int .u64 c,.int .u64 d] 195)).alloc (.cells #[.int .i64 k,.int .i64 q,.int .i64 t] 29));by_cases hk:k = 0
 ·subst hk;by_cases hq:q = 0
  ·subst hq;have ht:¬ t = 0:=fun h => hz ⟨rfl,rfl,h⟩
   have ht':(t == 0) = false:=by simpa using ht
   clear hz ht;go_enter Tryz.func235,Tryz.ntmps235;go_wp2_with fail;refine (BH 0 0 t _ hE2 i0 hs.out).mono ?_;rintro e wa ⟨rfl,ga⟩;obtain ⟨ca,fa,sa⟩:=ga.cells;try simp only [Aa] at ca fa sa
   try simp only [zL] at ca fa sa
   try simp only [zD] at ca fa sa
   try simp only [zS] at ca fa sa
   have za0:w.heap.size < wa.heap.size:=by omega
   have ya0:w.heap.size≤wa.heap.size:=by omega
   have ka0:=fun o => ca (w.heap.size) o (by omega)
   have ja0:=fun o => fa (w.heap.size) o (by omega)
   have za1:w.heap.size + 1 < wa.heap.size:=by omega
   have ka1:=fun o => ca (w.heap.size + 1) o (by omega)
   have ja1:=fun o => fa (w.heap.size + 1) o (by omega)
   go_wp2_with fail;go_ret2;refine ⟨rfl,?_⟩;repeat (first | exact Gr.refl _ | apply Gr.alloc | apply Gr.drew | apply Gr.drewN | (refine Gr.setCell ?_ (by simp) _) | (refine Gr.trans ?_ (by assumption)))
  ·have hq':(q == 0) = false:=by simpa using hq
   clear hz hq;go_enter Tryz.func235,Tryz.ntmps235;go_wp2_with fail;refine (BH 0 q t _ hE2 i0 hs.out).mono ?_;rintro e wa ⟨rfl,ga⟩;obtain ⟨ca,fa,sa⟩:=ga.cells;try simp only [Aa] at ca fa sa
   try simp only [zL] at ca fa sa
   try simp only [zD] at ca fa sa
   try simp only [zS] at ca fa sa
   have za0:w.heap.size < wa.heap.size:=by omega
   have ya0:w.heap.size≤wa.heap.size:=by omega
   have ka0:=fun o => ca (w.heap.size) o (by omega)
   have ja0:=fun o => fa (w.heap.size) o (by omega)
   have za1:w.heap.size + 1 < wa.heap.size:=by omega
   have ka1:=fun o => ca (w.heap.size + 1) o (by omega)
   have ja1:=fun o => fa (w.heap.size + 1) o (by omega)
   go_wp2_with fail;go_ret2;refine ⟨rfl,?_⟩;repeat (first | exact Gr.refl _ | apply Gr.alloc | apply Gr.drew | apply Gr.drewN | (refine Gr.setCell ?_ (by simp) _) | (refine Gr.trans ?_ (by assumption)))
 ·have hk':(k == 0) = false:=by simpa using hk
  clear hz hk;go_enter Tryz.func235,Tryz.ntmps235;go_wp2_with fail;refine (BH k q t _ hE2 i0 hs.out).mono ?_;rintro e wa ⟨rfl,ga⟩;obtain ⟨ca,fa,sa⟩:=ga.cells;try simp only [Aa] at ca fa sa
  try simp only [zL] at ca fa sa
  try simp only [zD] at ca fa sa
  try simp only [zS] at ca fa sa
  have za0:w.heap.size < wa.heap.size:=by omega
  have ya0:w.heap.size≤wa.heap.size:=by omega
  have ka0:=fun o => ca (w.heap.size) o (by omega)
  have ja0:=fun o => fa (w.heap.size) o (by omega)
  have za1:w.heap.size + 1 < wa.heap.size:=by omega
  have ka1:=fun o => ca (w.heap.size + 1) o (by omega)
  have ja1:=fun o => fa (w.heap.size + 1) o (by omega)
  go_wp2_with fail;go_ret2;refine ⟨rfl,?_⟩;repeat (first | exact Gr.refl _ | apply Gr.alloc | apply Gr.drew | apply Gr.drewN | (refine Gr.setCell ?_ (by simp) _) | (refine Gr.trans ?_ (by assumption)))
theorem Jz (s:Ao) (w:World) (hs:s.leg = true) :
 Calls Tryz.prog 235 #[C2,.agg #[.int .i64 s.k,.int .i64 s.q,.int .i64 s.t]] w fun e w' => e = .returned (.tuple #[.int .i64 0,.bool false])∧Gr w w':=by
 obtain ⟨h1,h2,h3,h4,h5⟩:=(Ao.leg_iff _).1 hs;replace hs:=zH hs;have ha:=fun w => FH 0 s.q s.t w
 have e0:AV 0 = 0∧AR 0 = 0:=by decide
 rw [e0.1,e0.2] at ha;replace ha:=zH ha;clear e0;go_enter Tryz.func235,Tryz.ntmps235;go_wp2_with fail;refine (Bk s.k s.q s.t _ hs.out).mono ?_;rintro e wa ⟨rfl,ga⟩;obtain ⟨ca,fa,sa⟩:=ga.cells;try simp only [Aa] at ca fa sa
 try simp only [zL] at ca fa sa
 try simp only [zD] at ca fa sa
 try simp only [zS] at ca fa sa
 have za0:w.heap.size < wa.heap.size:=by omega
 have ya0:w.heap.size≤wa.heap.size:=by omega
 have ka0:=fun o => ca (w.heap.size) o (by omega)
 have ja0:=fun o => fa (w.heap.size) o (by omega)
 have za1:w.heap.size + 1 < wa.heap.size:=by omega
 have ka1:=fun o => ca (w.heap.size + 1) o (by omega)
 have ja1:=fun o => fa (w.heap.size + 1) o (by omega)
 go_wp2_with fail;refine (ha.out _).mono ?_;rintro e wb ⟨rfl,gb⟩;obtain ⟨cb,fb,sb⟩:=gb.cells;try simp only [Aa] at cb fb sb
 try simp only [zL] at cb fb sb
 try simp only [zD] at cb fb sb
 try simp only [zS] at cb fb sb
 have zb0:w.heap.size < wb.heap.size:=by omega
 have yb0:w.heap.size≤wb.heap.size:=by omega
 have kb0:=fun o => cb (w.heap.size) o (by omega)
 have jb0:=fun o => fb (w.heap.size) o (by omega)
 have zb1:w.heap.size + 1 < wb.heap.size:=by omega
 have kb1:=fun o => cb (w.heap.size + 1) o (by omega)
 have jb1:=fun o => fb (w.heap.size + 1) o (by omega)
 go_wp2_with fail;go_ret2;refine ⟨rfl,?_⟩;repeat (first | exact Gr.refl _ | apply Gr.alloc | apply Gr.drew | apply Gr.drewN | (refine Gr.setCell ?_ (by simp) _) | (refine Gr.trans ?_ (by assumption)))
theorem HS (w:World) :
 Calls Tryz.prog 235 #[C2,.agg #[.int .i64 0,.int .i64 0,.int .i64 0]] w fun e w' => e = .returned (.tuple #[.int .i64 0,.bool false])∧Gr w w':=by
 have ha:=fun w => FH 0 1 1 w
 have e0:AV 0 = 0∧AR 0 = 0:=by decide
 rw [e0.1,e0.2] at ha;replace ha:=zH ha;clear e0;go_enter Tryz.func235,Tryz.ntmps235;go_wp2_with fail;refine (ha.out _).mono ?_;rintro e wb ⟨rfl,gb⟩;obtain ⟨cb,fb,sb⟩:=gb.cells;try simp only [Aa] at cb fb sb
 try simp only [zL] at cb fb sb
 try simp only [zD] at cb fb sb
 try simp only [zS] at cb fb sb
 have zb0:w.heap.size < wb.heap.size:=by omega
 have yb0:w.heap.size≤wb.heap.size:=by omega
 have kb0:=fun o => cb (w.heap.size) o (by omega)
 have jb0:=fun o => fb (w.heap.size) o (by omega)
 have zb1:w.heap.size + 1 < wb.heap.size:=by omega
 have kb1:=fun o => cb (w.heap.size + 1) o (by omega)
 have jb1:=fun o => fb (w.heap.size + 1) o (by omega)
 go_wp2_with fail;go_ret2;refine ⟨rfl,?_⟩;repeat (first | exact Gr.refl _ | apply Gr.alloc | apply Gr.drew | apply Gr.drewN | (refine Gr.setCell ?_ (by simp) _) | (refine Gr.trans ?_ (by assumption)))
theorem J5 {G:List Nat} {E:Nat→Addr} (o:Option Nat) (p:Int × Int) (s:Ao) (w:World) (hE:CK G E w) (i0:9 ∈ G) (hp:o = none→Nz p) :
 Calls Tryz.prog 235 #[pv o p,.agg #[.int .i64 s.k,.int .i64 s.q,.int .i64 s.t]] w fun e w' => e = .returned (.tuple #[.int .i64 (ND o p s),.bool (OJ o s)])∧Gr w w':=by
 by_cases hz:s.k = 0∧s.q = 0∧s.t = 0
 ·obtain ⟨k,q,t⟩:=s;dsimp only at hz;obtain ⟨rfl,rfl,rfl⟩:=hz;cases o with
  | none => exact I0 p w (hp rfl)
  | some g => exact HS w
 ·cases hs:s.leg
  ·have:OJ o s = false:=by unfold OJ;rw [decide_eq_false hz,hs];simp
   unfold ND;rw [this];exact KP _ _ _ _ s w hE i0 hs hz
  ·cases o with
   | none =>
    have:OJ none s = true:=by unfold OJ;rw [hs];simp
    unfold ND;rw [this,if_pos rfl,if_neg hz];exact KO p s w (hp rfl) hs
   | some g =>
    have:OJ (some g) s = false:=rfl;unfold ND;rw [this];exact Jz s w hs
theorem E9 {l:List Ao} (h:Bm l = none):Nz (Ah l):=by
 unfold Bm at h;split at h
 ·cases h
 ·rename_i h1;split at h
  ·cases h
  ·rename_i h2;exact Ip (by simpa using h1) (by omega)
end Go.Proofs.YtdfelohjdkcpkaaGreatDoor
