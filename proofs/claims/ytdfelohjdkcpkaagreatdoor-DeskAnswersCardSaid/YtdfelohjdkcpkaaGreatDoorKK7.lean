/- Package demand: the tasks. -/
import Derived.Lib.MinMax
import Derived.Test.YtdfelohjdkcpkaaGreatDoorKK6
set_option maxRecDepth 100000
set_option maxHeartbeats 3200000
namespace Go.Proofs.YtdfelohjdkcpkaaGreatDoor
open Go.RowKit
def KC (l:List AA) (n:Int):Option Nat:=if AF l = false then some 10 else if n < 0 ∨ 1099511627776 < n then some 1 else none
theorem IP {l:List AA} {n:Int} (h:KC l n = none):AF l = true∧A2 n:=by
 unfold KC at h;split at h
 ·cases h
 ·split at h
  ·cases h
  ·rename_i h1 h2;exact ⟨by simpa using h1,by unfold A2;omega⟩
theorem Ay {l:List AA} (h:AF l = true):(∀ t ∈ l,Ia t)∧l.length≤8:=by
 simp only [AF,Bool.and_eq_true,decide_eq_true_eq] at h;exact ⟨fun t ht => (AA.leg_iff t).1 (List.all_eq_true.1 h.1 t ht),h.2⟩
theorem JD (s:AA) (l:Int) (w:World) (hs:Ia s) (hl:A2 l) :
 Calls Tryz.prog 247 #[.agg #[.int .i64 s.c,.int .i64 s.p,.int .i64 s.d,.int .i64 s.s],.int .i64 l] w fun e w' => e = .returned (.int .i64 (CT s l))∧Gr w w':=by
 obtain ⟨h1,h2,h3,h4,h5,h6⟩:=hs;obtain ⟨l1,l2⟩:=hl;unfold CT;by_cases hd:l < s.d
 ·rw [if_pos hd];go_enter Tryz.func247,Tryz.ntmps247;go_wp2_with fail;go_ret;refine ⟨rfl,?_⟩;repeat (first | exact Gr.refl _ | apply Gr.alloc | apply Gr.drew | apply Gr.drewN | (refine Gr.setCell ?_ (by simp) _) | (refine Gr.trans ?_ (by assumption)))
 ·rw [if_neg hd];have hq:=A4 (l:=l - s.d) (q:=s.c) (t:=s.p) (by omega) (by omega) (by omega) (by omega);obtain ⟨q0,q1,q2⟩:=hq;have q3:0≤((l - s.d) / s.p + 1) * s.c∧((l - s.d) / s.p + 1) * s.c≤1099511627776 + 256:=by
   rw [Int.add_mul,Int.one_mul];omega
  have q4:(l - s.d) / s.p≤1099511627776:=by
   have:=Int.ediv_le_self (a:=l - s.d) s.p (by omega);omega
  obtain ⟨q5,q6⟩:=q3;have h7:1≤s.p:=by omega
  clear q1 q2;go_enter Tryz.func247,Tryz.ntmps247;go_wp2_with fail;go_quiet (fail);go_wp2_with fail;go_ret;refine ⟨rfl,?_⟩;repeat (first | exact Gr.refl _ | apply Gr.alloc | apply Gr.drew | apply Gr.drewN | (refine Gr.setCell ?_ (by simp) _) | (refine Gr.trans ?_ (by assumption)))
theorem GG (a:Option Addr) (l:List AA) (c:Nat) (n:Int) (w:World) (hl:A1 w a l) (h:KC l n = none) :
 Calls Tryz.prog 246 #[.slice a l.length c,.int .i64 n] w fun e w' => e = .returned .nilIface∧Gr w w':=by
 obtain ⟨h1,h3⟩:=IP h;clear h;replace h1:=zH h1;go_enter Tryz.func246,Tryz.ntmps246;go_wp2_with fail;refine (DE a l c _ hl h1.out).mono ?_;rintro e wa ⟨rfl,ga⟩;obtain ⟨ca,fa,sa⟩:=ga.cells;try simp only [Aa] at ca fa sa
 try simp only [zL] at ca fa sa
 try simp only [zD] at ca fa sa
 try simp only [zS] at ca fa sa
 go_wp2_with fail;refine (Fd n _ h3).mono ?_;rintro e wb ⟨rfl,rfl⟩;go_wp2_with fail;go_ret;exact ⟨rfl,ga.alloc _⟩
def Do (l:List AA) (n:Int):Int:=l.foldl (fun b t => if n < t.d then max b (t.s - 1) else b) 0
theorem DR (l:List AA) (t:AA) (n:Int):Do (l ++ [t]) n = if n < t.d then max (Do l n) (t.s - 1) else Do l n:=by unfold Do;rw [List.foldl_append];rfl
def BT (l:List AA) (n:Int):Int:=A0 (fun t => CT t n) l
def A3 (l:List AA) (n:Int):Int:=if BT l n = 0 then 0 else BT l n + Do l n
def B5 (l:List AA) (i n:Int):Nat→Int × Int
 | 0 => (0,0)
 | k + 1 => match l[k]? with
  | none => B5 l i n k
  | some t => if (k:Int)≤i then ((B5 l i n k).1 + JB n t.p * t.c,(B5 l i n k).2) else ((B5 l i n k).1,max (B5 l i n k).2 (t.s - 1))
theorem I2 {l:List AA} {i n:Int} {k:Nat} {t:AA} (h:l[k]? = some t) (hk:(k:Int)≤i):B5 l i n (k + 1) = ((B5 l i n k).1 + JB n t.p * t.c,(B5 l i n k).2):=by rw [B5,h];exact if_pos hk
theorem I3 {l:List AA} {i n:Int} {k:Nat} {t:AA} (h:l[k]? = some t) (hk:¬ (k:Int)≤i):B5 l i n (k + 1) = ((B5 l i n k).1,max (B5 l i n k).2 (t.s - 1)):=by rw [B5,h];exact if_neg hk
theorem BQ {l:List AA} (h:AF l = true) {k:Nat} {t:AA} (ht:l[k]? = some t):Ia t:=(Ay h).1 t (AL ht)
theorem LK {l:List AA} {i n:Int} (h:AF l = true) (hn:A2 n) (k:Nat):0≤(B5 l i n k).1∧(B5 l i n k).1≤k * (1099511627776 + 512)∧0≤(B5 l i n k).2∧(B5 l i n k).2≤256:=by
 induction k with
 | zero => exact ⟨Int.le_refl _,by simp [B5],Int.le_refl _,by simp [B5]⟩
 | succ k ih =>
  cases ht:l[k]? with
  | none => rw [B5,ht];refine ⟨ih.1,?_,ih.2.2⟩;have:=ih.2.1;push_cast;rw [Int.add_mul];omega
  | some t =>
   obtain ⟨h1,h2,h3,h4,h5,h6⟩:=BQ h ht;have:=DC hn.1 (show 0≤t.c by omega) (show 1≤t.p by omega) (show t.c≤t.p by omega);have hn2:=hn.2;have e:((k + 1:Nat):Int) * (1099511627776 + 512) = k * (1099511627776 + 512) + (1099511627776 + 512):=by push_cast;rw [Int.add_mul];omega
   rw [e];by_cases hk:(k:Int)≤i
   ·rw [I2 ht hk];exact ⟨by dsimp only;omega,by dsimp only;omega,ih.2.2⟩
   ·rw [I3 ht hk];exact ⟨ih.1,by dsimp only;omega,by dsimp only;omega,by dsimp only;omega⟩
theorem GV {l:List AA} (h:AF l = true) {n:Int} (hn:A2 n) (k:Nat):0≤BT (l.take k) n∧BT (l.take k) n≤8 * (1099511627776 + 256):=by
 have hp:=Ay h;have:=C4 (fun t => CT t n) (l.take k) (1099511627776 + 256) (fun x hx => GK (hp.1 x (List.mem_of_mem_take hx)) hn);have hl:(l.take k).length≤8:=by rw [List.length_take];omega
 unfold BT;omega
theorem Js {l:List AA} (h:AF l = true) {n:Int} (k:Nat):0≤Do (l.take k) n∧Do (l.take k) n≤256:=by
 induction k with
 | zero => rw [List.take_zero];exact ⟨Int.le_refl _,by simp [Do]⟩
 | succ k ih =>
  cases ht:l[k]? with
  | none => rw [List.take_add_one,ht];simpa using ih
  | some t =>
   obtain ⟨h1,h2,h3,h4,h5,h6⟩:=BQ h ht;rw [Ae ht,DR];split <;> omega
theorem Lp (a:Option Addr) (l:List AA) (c:Nat) (n:Int) (w:World) (hl:A1 w a l) (h:KC l n = none) :
 Calls Tryz.prog 214 #[.slice a l.length c,.int .i64 n] w fun e w' => e = .returned (.tuple #[.int .i64 (A3 l n),.nilIface])∧Gr w w':=by
 obtain ⟨h1,h3⟩:=IP h;have h8:=(Ay h1).2;have hn:=h3;obtain ⟨hn1,hn2⟩:=hn;replace h:=zH h;replace h1:=zH h1;unfold A3;go_enter Tryz.func214,Tryz.ntmps214;go_wp2_with fail;refine (GG a l c n _ hl h.out).mono ?_;rintro e wa ⟨rfl,ga⟩;obtain ⟨ca,fa,sa⟩:=ga.cells;try simp only [Aa] at ca fa sa
 try simp only [zL] at ca fa sa
 try simp only [zD] at ca fa sa
 try simp only [zS] at ca fa sa
 go_wp2_with fail;go_loopw [19,7,8] (fun i v b wr => ∃ k:Nat,k≤l.length∧i = .int .i64 k∧v = .int .i64 (BT (l.take k) n)∧b = .int .i64 (Do (l.take k) n)∧Gr w wr) (fun i _ _ _ => l.length - (intOf i).toNat);case atStart => exact ⟨0,Nat.zero_le _,rfl,rfl,rfl,ga⟩
 case round =>
  obtain ⟨k,hk,rfl,rfl,rfl,hg⟩:=hrel;obtain ⟨sb1,sb2⟩:=GV h1.out h3 k;obtain ⟨bb1,bb2⟩:=Js h1.out (n:=n) k;by_cases hlt:k < l.length
  ·obtain ⟨s,hs⟩:=Ac l k hlt;obtain ⟨b,off,rfl,hb,c0,c1,c2,c3⟩:=(hl.gr hg) k s hs;have hleg:=BQ h1.out hs;obtain ⟨bd1,bd2⟩:=GK hleg h3;have hsn:BT (l.take (k + 1)) n = BT (l.take k) n + CT s n:=by unfold BT;rw [Ae hs,A6]
   have hbn:Do (l.take (k + 1)) n = if n < s.d then max (Do (l.take k) n) (s.s - 1) else Do (l.take k) n:=by rw [Ae hs,DR]
   have hl2:=hleg;obtain ⟨g1,g2,g3,g4,g5,g6⟩:=hl2;replace hsn:=zH hsn;generalize BT (l.take k) n = m at *;generalize Do (l.take k) n = q at *;by_cases hd:n < s.d
   ·rw [if_pos hd] at hbn;replace hbn:=zH hbn;go_wp2_with fail;refine (JD s n _ hleg h3).mono ?_;rintro e wd ⟨rfl,gd⟩;obtain ⟨cd,fd,sd⟩:=gd.cells;try simp only [Aa] at cd fd sd
    try simp only [zL] at cd fd sd
    try simp only [zD] at cd fd sd
    try simp only [zS] at cd fd sd
    have zd0:wr.heap.size < wd.heap.size:=by omega
    have yd0:wr.heap.size≤wd.heap.size:=by omega
    have kd0:=fun o => cd (wr.heap.size) o (by omega)
    have jd0:=fun o => fd (wr.heap.size) o (by omega)
    go_wp2_with fail;go_roundw;case rel => exact ⟨k + 1,by omega,by go_num,by rw [hsn.out],by rw [hbn.out],(hg.alloc _).trans gd⟩
    case measure => simp [intOf];omega
   ·rw [if_neg hd] at hbn;replace hbn:=zH hbn;go_wp2_with fail;refine (JD s n _ hleg h3).mono ?_;rintro e wd ⟨rfl,gd⟩;obtain ⟨cd,fd,sd⟩:=gd.cells;try simp only [Aa] at cd fd sd
    try simp only [zL] at cd fd sd
    try simp only [zD] at cd fd sd
    try simp only [zS] at cd fd sd
    have zd0:wr.heap.size < wd.heap.size:=by omega
    have yd0:wr.heap.size≤wd.heap.size:=by omega
    have kd0:=fun o => cd (wr.heap.size) o (by omega)
    have jd0:=fun o => fd (wr.heap.size) o (by omega)
    go_wp2_with fail;go_roundw;case rel => exact ⟨k + 1,by omega,by go_num,by rw [hsn.out],by rw [hbn.out],(hg.alloc _).trans gd⟩
    case measure => simp [intOf];omega
  ·have hall:l.take k = l:=List.take_of_length_le (by omega);rw [hall] at sb1 sb2 bb1 bb2 ⊢;by_cases h0:BT l n = 0
   ·have q0:(BT l n == 0) = true:=by simpa using h0
    replace h0:=zH h0;go_wp2_with fail;go_ret2;exact ⟨rfl,hg⟩
   ·have q0:(BT l n == 0) = false:=by simpa using h0
    replace h0:=zH h0;go_wp2_with fail;go_ret2;exact ⟨rfl,hg⟩
theorem Me (a:Option Addr) (l:List AA) (c:Nat) (i n:Int) (w:World) (hl:A1 w a l) (h1:AF l = true) (h3:A2 n) (hi0:0≤i) (hi1:i < l.length) :
 Calls Tryz.prog 245 #[.slice a l.length c,.int .i64 i,.int .i64 n] w fun e w' => e = .returned (.tuple #[.int .i64 ((B5 l i n l.length).1 + (B5 l i n l.length).2),.nilIface])∧Gr w w':=by
 have h8:=(Ay h1).2;have hn:=h3;obtain ⟨hn1,hn2⟩:=hn;replace h1:=zH h1;go_enter Tryz.func245,Tryz.ntmps245;go_wp2_with fail;refine (DE a l c _ hl h1.out).mono ?_;rintro e wa ⟨rfl,ga⟩;obtain ⟨ca,fa,sa⟩:=ga.cells;try simp only [Aa] at ca fa sa
 try simp only [zL] at ca fa sa
 try simp only [zD] at ca fa sa
 try simp only [zS] at ca fa sa
 go_wp2_with fail;refine (Fd n _ h3).mono ?_;rintro e wb ⟨rfl,rfl⟩;go_wp2_with fail;go_loopw [40,11,12] (fun iv v b wr => ∃ k:Nat,k≤l.length∧iv = .int .i64 k∧v = .int .i64 (B5 l i n k).1∧b = .int .i64 (B5 l i n k).2∧Gr w wr) (fun i _ _ _ => l.length - (intOf i).toNat);case atStart => exact ⟨0,Nat.zero_le _,rfl,rfl,rfl,ga.alloc _⟩
 case round =>
  obtain ⟨k,hk,rfl,rfl,rfl,hg⟩:=hrel;obtain ⟨sb1,sb2,bb1,bb2⟩:=LK (i:=i) h1.out h3 k;by_cases hlt:k < l.length
  ·obtain ⟨s,hs⟩:=Ac l k hlt;obtain ⟨b,off,rfl,hb,c0,c1,c2,c3⟩:=(hl.gr hg) k s hs;obtain ⟨g1,g2,g3,g4,g5,g6⟩:=BQ h1.out hs;have p1:1≤s.p:=by omega
   obtain ⟨u1,u2,u3⟩:=DC hn1 (show 0≤s.c by omega) p1 (show s.c≤s.p by omega);have hk8:(k:Int)≤8:=by omega
   by_cases hd:(k:Int)≤i
   ·have hst:=I2 (n:=n) hs hd;replace hst:=zH hst;generalize B5 l i n k = m at *;obtain ⟨m1,m2⟩:=m;dsimp only at sb1 sb2 bb1 bb2 ⊢;have r0:=AB.cell (w:=wr.alloc (.cells #[.int .i64 s.c,.int .i64 s.p,.int .i64 s.d,.int .i64 s.s] 41)) (b:=wr.heap.size) (o:=0) (v:=.int .i64 s.c) (by simp [go_sem]);have r1:=AB.cell (w:=wr.alloc (.cells #[.int .i64 s.c,.int .i64 s.p,.int .i64 s.d,.int .i64 s.s] 41)) (b:=wr.heap.size) (o:=1) (v:=.int .i64 s.p) (by simp [go_sem]);go_wp2_with fail;refine Ap (by kernel_rfl) (by kernel_rfl) ?_;repeat (any_goals (first | go_big_quiet_step (first | (go_at_call 266;exact Calls.grows_same (En n s.p _ hn1 hn2 p1 g4))) | quiet_step (first | (go_at_call 266;exact Calls.grows_same (En n s.p _ hn1 hn2 p1 g4)))))
    refine wpQuiet_nil ?_;intro wf hwq;have gf:=AB.of hwq;clear hwq;obtain ⟨cf,ff,sf⟩:=gf.cells;try simp only [Aa] at cf ff sf
    try simp only [zL] at cf ff sf
    try simp only [zD] at cf ff sf
    try simp only [zS] at cf ff sf
    have zf0:wr.heap.size < wf.heap.size:=by omega
    have yf0:wr.heap.size≤wf.heap.size:=by omega
    have kf0:=fun o => cf (wr.heap.size) o (by omega)
    have jf0:=fun o => ff (wr.heap.size) o (by omega)
    go_wp2_with fail;go_roundw;case rel => exact ⟨k + 1,by omega,by go_num,by rw [hst.out],by rw [hst.out],(hg.alloc _).trans gf⟩
    case measure => simp [intOf];omega
   ·have hst:=I3 (n:=n) hs hd;replace hst:=zH hst;generalize B5 l i n k = m at *;obtain ⟨m1,m2⟩:=m;dsimp only at sb1 sb2 bb1 bb2 ⊢;go_wp2_with fail;go_roundw;case rel => exact ⟨k + 1,by omega,by go_num,by rw [hst.out],by rw [hst.out],hg.alloc _⟩
    case measure => simp [intOf];omega
  ·obtain rfl:k = l.length:=by omega
   go_wp2_with fail;go_ret2;exact ⟨rfl,hg⟩
theorem FT (s:AA) (l:Int) (w:World) (hs:Ia s) (hl:A2 l) :
 Calls Tryz.prog 184 #[.agg #[.int .i64 s.c,.int .i64 s.p,.int .i64 s.d,.int .i64 s.s],.int .i64 l] w fun e w' => e = .returned (.int .i64 (CT s l))∧Gr w w':=by
 have hb:=GK hs hl;obtain ⟨h1,h2,h3,h4,h5,h6⟩:=hs;have hl0:=hl;obtain ⟨l1,l2⟩:=hl0;unfold CT at hb ⊢;by_cases hd:l < s.d
 ·rw [if_pos hd];go_enter Tryz.func184,Tryz.ntmps184;go_wp2_with fail;go_ret;refine ⟨rfl,?_⟩;repeat (first | exact Gr.refl _ | apply Gr.alloc | apply Gr.drew | apply Gr.drewN | (refine Gr.setCell ?_ (by simp) _) | (refine Gr.trans ?_ (by assumption)))
 ·rw [if_neg hd] at hb ⊢;have hq:=A4 (l:=l - s.d) (q:=s.c) (t:=s.p) (by omega) (by omega) (by omega) (by omega);obtain ⟨q0,q1,q2⟩:=hq;have e:((l - s.d) / s.p + 1) * s.c = s.c + s.c * ((l - s.d) / s.p):=by rw [Int.add_mul,Int.one_mul,Int.mul_comm];omega
  rw [e] at hb ⊢;rw [Int.mul_comm] at q1 q2;have p1:1≤s.p:=by omega
  have hf:=fun w => C9 (l - s.d) s.p w ⟨by omega,by omega⟩ p1 h4
  replace hf:=zH hf;obtain ⟨hb1,hb2⟩:=hb;clear e;have r0:=AB.cell (w:=w.alloc (.cells #[.int .i64 s.c,.int .i64 s.p,.int .i64 s.d,.int .i64 s.s] 41)) (b:=w.heap.size) (o:=0) (v:=.int .i64 s.c) (by simp [go_sem]);have r1:=AB.cell (w:=w.alloc (.cells #[.int .i64 s.c,.int .i64 s.p,.int .i64 s.d,.int .i64 s.s] 41)) (b:=w.heap.size) (o:=1) (v:=.int .i64 s.p) (by simp [go_sem]);have r2:=AB.cell (w:=w.alloc (.cells #[.int .i64 s.c,.int .i64 s.p,.int .i64 s.d,.int .i64 s.s] 41)) (b:=w.heap.size) (o:=2) (v:=.int .i64 s.d) (by simp [go_sem]);go_enter Tryz.func184,Tryz.ntmps184;go_wp2_with fail;refine Ap (by kernel_rfl) (by kernel_rfl) ?_;repeat (any_goals (first | go_big_quiet_step (first | (go_at_call 217;exact Calls.grows_same (hf.out _))) | quiet_step (first | (go_at_call 217;exact Calls.grows_same (hf.out _)))))
  refine wpQuiet_nil ?_;intro wf hwq;have gf:=AB.of hwq;clear hwq;obtain ⟨cf,ff,sf⟩:=gf.cells;try simp only [Aa] at cf ff sf
  try simp only [zL] at cf ff sf
  try simp only [zD] at cf ff sf
  try simp only [zS] at cf ff sf
  have zf0:w.heap.size < wf.heap.size:=by omega
  have yf0:w.heap.size≤wf.heap.size:=by omega
  have kf0:=fun o => cf (w.heap.size) o (by omega)
  have jf0:=fun o => ff (w.heap.size) o (by omega)
  go_wp2_with fail;go_ret;refine ⟨rfl,?_⟩;repeat (first | exact Gr.refl _ | apply Gr.alloc | apply Gr.drew | apply Gr.drewN | (refine Gr.setCell ?_ (by simp) _) | (refine Gr.trans ?_ (by assumption)))
theorem Fv (a:Option Addr) (l:List AA) (c:Nat) (n:Int) (w:World) (hl:A1 w a l) (h1:AF l = true) (h3:A2 n) :
 Calls Tryz.prog 107 #[.slice a l.length c,.int .i64 n] w fun e w' => e = .returned (.int .i64 (A3 l n))∧Gr w w':=by
 have h8:=(Ay h1).2;have hn:=h3;obtain ⟨hn1,hn2⟩:=hn;replace h1:=zH h1;unfold A3;go_enter Tryz.func107,Tryz.ntmps107;go_wp2_with fail;go_loopw [11,5,6] (fun i v b wr => ∃ k:Nat,k≤l.length∧i = .int .i64 k∧v = .int .i64 (BT (l.take k) n)∧b = .int .i64 (Do (l.take k) n)∧Gr w wr) (fun i _ _ _ => l.length - (intOf i).toNat);case atStart => exact ⟨0,Nat.zero_le _,rfl,rfl,rfl,Gr.refl _⟩
 case round =>
  obtain ⟨k,hk,rfl,rfl,rfl,hg⟩:=hrel;obtain ⟨sb1,sb2⟩:=GV h1.out h3 k;obtain ⟨bb1,bb2⟩:=Js h1.out (n:=n) k;by_cases hlt:k < l.length
  ·obtain ⟨s,hs⟩:=Ac l k hlt;obtain ⟨b,off,rfl,hb,c0,c1,c2,c3⟩:=(hl.gr hg) k s hs;have hleg:=BQ h1.out hs;obtain ⟨bd1,bd2⟩:=GK hleg h3;have hsn:BT (l.take (k + 1)) n = BT (l.take k) n + CT s n:=by unfold BT;rw [Ae hs,A6]
   have hbn:Do (l.take (k + 1)) n = if n < s.d then max (Do (l.take k) n) (s.s - 1) else Do (l.take k) n:=by rw [Ae hs,DR]
   have hl2:=hleg;obtain ⟨g1,g2,g3,g4,g5,g6⟩:=hl2;replace hsn:=zH hsn;generalize BT (l.take k) n = m at *;generalize Do (l.take k) n = q at *;by_cases hd:n < s.d
   ·rw [if_pos hd] at hbn;by_cases hq:q < s.s - 1
    ·have hbn2:Do (l.take (k + 1)) n = s.s - 1:=by omega
     clear hbn;replace hbn2:=zH hbn2;go_wp2_with fail;refine (FT s n _ hleg h3).mono ?_;rintro e wd ⟨rfl,gd⟩;obtain ⟨cd,fd,sd⟩:=gd.cells;try simp only [Aa] at cd fd sd
     try simp only [zL] at cd fd sd
     try simp only [zD] at cd fd sd
     try simp only [zS] at cd fd sd
     have zd0:wr.heap.size < wd.heap.size:=by omega
     have yd0:wr.heap.size≤wd.heap.size:=by omega
     have kd0:=fun o => cd (wr.heap.size) o (by omega)
     have jd0:=fun o => fd (wr.heap.size) o (by omega)
     go_wp2_with fail;go_roundw;case rel => exact ⟨k + 1,by omega,by go_num,by rw [hsn.out],by rw [hbn2.out],(hg.alloc _).trans gd⟩
     case measure => simp [intOf];omega
    ·have hbn2:Do (l.take (k + 1)) n = q:=by omega
     clear hbn;replace hbn2:=zH hbn2;go_wp2_with fail;refine (FT s n _ hleg h3).mono ?_;rintro e wd ⟨rfl,gd⟩;obtain ⟨cd,fd,sd⟩:=gd.cells;try simp only [Aa] at cd fd sd
     try simp only [zL] at cd fd sd
     try simp only [zD] at cd fd sd
     try simp only [zS] at cd fd sd
     have zd0:wr.heap.size < wd.heap.size:=by omega
     have yd0:wr.heap.size≤wd.heap.size:=by omega
     have kd0:=fun o => cd (wr.heap.size) o (by omega)
     have jd0:=fun o => fd (wr.heap.size) o (by omega)
     go_wp2_with fail;go_roundw;case rel => exact ⟨k + 1,by omega,by go_num,by rw [hsn.out],by rw [hbn2.out],(hg.alloc _).trans gd⟩
     case measure => simp [intOf];omega
   ·rw [if_neg hd] at hbn;replace hbn:=zH hbn;go_wp2_with fail;refine (FT s n _ hleg h3).mono ?_;rintro e wd ⟨rfl,gd⟩;obtain ⟨cd,fd,sd⟩:=gd.cells;try simp only [Aa] at cd fd sd
    try simp only [zL] at cd fd sd
    try simp only [zD] at cd fd sd
    try simp only [zS] at cd fd sd
    have zd0:wr.heap.size < wd.heap.size:=by omega
    have yd0:wr.heap.size≤wd.heap.size:=by omega
    have kd0:=fun o => cd (wr.heap.size) o (by omega)
    have jd0:=fun o => fd (wr.heap.size) o (by omega)
    go_wp2_with fail;go_roundw;case rel => exact ⟨k + 1,by omega,by go_num,by rw [hsn.out],by rw [hbn.out],(hg.alloc _).trans gd⟩
    case measure => simp [intOf];omega
  ·have hall:l.take k = l:=List.take_of_length_le (by omega);rw [hall] at sb1 sb2 bb1 bb2 ⊢;by_cases h0:BT l n = 0
   ·rw [h0] at sb1 sb2 ⊢;replace h0:=zH h0;go_wp2_with fail;go_ret;exact ⟨rfl,hg⟩
   ·have q0:0 < BT l n:=by omega
    replace h0:=zH h0;go_wp2_with fail;go_ret;exact ⟨rfl,hg⟩
theorem I7 (a:Option Addr) (l:List AA) (c:Nat) (i n:Int) (w:World) (hl:A1 w a l) (h1:AF l = true) (h3:A2 n) (hi0:0≤i) (hi1:i < l.length) :
 Calls Tryz.prog 175 #[.slice a l.length c,.int .i64 i,.int .i64 n] w fun e w' => e = .returned (.int .i64 ((B5 l i n l.length).1 + (B5 l i n l.length).2))∧Gr w w':=by
 have h8:=(Ay h1).2;have hn:=h3;obtain ⟨hn1,hn2⟩:=hn;replace h1:=zH h1;go_enter Tryz.func175,Tryz.ntmps175;go_wp2_with fail;go_loopw [14,7,8] (fun iv v b wr => ∃ k:Nat,k≤l.length∧iv = .int .i64 k∧v = .int .i64 (B5 l i n k).1∧b = .int .i64 (B5 l i n k).2∧Gr w wr) (fun i _ _ _ => l.length - (intOf i).toNat);case atStart => exact ⟨0,Nat.zero_le _,rfl,rfl,rfl,Gr.refl _⟩
 case round =>
  obtain ⟨k,hk,rfl,rfl,rfl,hg⟩:=hrel;obtain ⟨sb1,sb2,bb1,bb2⟩:=LK (i:=i) h1.out h3 k;by_cases hlt:k < l.length
  ·obtain ⟨s,hs⟩:=Ac l k hlt;obtain ⟨b,off,rfl,hb,c0,c1,c2,c3⟩:=(hl.gr hg) k s hs;obtain ⟨g1,g2,g3,g4,g5,g6⟩:=BQ h1.out hs;have p1:1≤s.p:=by omega
   obtain ⟨u1,u2,u3⟩:=DC hn1 (show 0≤s.c by omega) p1 (show s.c≤s.p by omega);have hk8:(k:Int)≤8:=by omega
   by_cases hd:(k:Int)≤i
   ·have hst:=I2 (n:=n) hs hd;rw [JA p1] at u1 u2 u3 hst;obtain ⟨q3,q4,q5⟩:=A4 hn1 (show 0≤s.p by omega) p1 (Int.le_refl _);have q6:n / s.p≤n:=Int.ediv_le_self _ hn1;have hf:=fun w => C9 n s.p w h3 p1 g4
    generalize n / s.p = x at *;replace hf:=zH hf;generalize B5 l i n k = m at *;obtain ⟨m1,m2⟩:=m;dsimp only at sb1 sb2 bb1 bb2 hst ⊢;by_cases hx:x * s.p < n
    ·rw [if_pos hx] at u1 u2 u3 hst;replace hst:=zH hst;go_wp2_with fail;refine (hf.out _).mono ?_;rintro e wd ⟨rfl,rfl⟩;go_wp2_with fail;go_roundw;case rel => exact ⟨k + 1,by omega,by go_num,by rw [hst.out],by rw [hst.out],hg.alloc _⟩
     case measure => simp [intOf];omega
    ·rw [if_neg hx] at u1 u2 u3 hst;replace hst:=zH hst;go_wp2_with fail;refine (hf.out _).mono ?_;rintro e wd ⟨rfl,rfl⟩;go_wp2_with fail;go_roundw;case rel => exact ⟨k + 1,by omega,by go_num,by rw [hst.out],by rw [hst.out],hg.alloc _⟩
     case measure => simp [intOf];omega
   ·have hst:=I3 (n:=n) hs hd;generalize B5 l i n k = m at *;obtain ⟨m1,m2⟩:=m;dsimp only at sb1 sb2 bb1 bb2 hst ⊢;by_cases hq:m2 < s.s - 1
    ·have hst2:B5 l i n (k + 1) = (m1,s.s - 1):=by rw [hst];congr 1;omega
     clear hst;replace hst2:=zH hst2;go_wp2_with fail;go_roundw;case rel => exact ⟨k + 1,by omega,by go_num,by rw [hst2.out],by rw [hst2.out],hg.alloc _⟩
     case measure => simp [intOf];omega
    ·have hst2:B5 l i n (k + 1) = (m1,m2):=by rw [hst];congr 1;omega
     clear hst;replace hst2:=zH hst2;go_wp2_with fail;go_roundw;case rel => exact ⟨k + 1,by omega,by go_num,by rw [hst2.out],by rw [hst2.out],hg.alloc _⟩
     case measure => simp [intOf];omega
  ·obtain rfl:k = l.length:=by omega
   go_wp2_with fail;go_ret;exact ⟨rfl,hg⟩
def GU (l:List AA) (i n:Int):Int:=(B5 l i n l.length).1 + (B5 l i n l.length).2
def Hp (p:Int→Bool) (n:Nat):Int:=match (List.range n).find? (fun k:Nat => p ((k:Int) + 1)) with
 | some k => (k:Int) + 1
 | none => 0
theorem IC {p:Int→Bool} {n k:Nat} (hk:k < n) (h:p ((k:Int) + 1) = true) (hb:∀ j,j < k→p ((j:Int) + 1) = false):Hp p n = (k:Int) + 1:=by
 have:(List.range n).find? (fun k:Nat => p ((k:Int) + 1)) = some k:=by
  rw [List.find?_range_eq_some];exact ⟨h,List.mem_range.2 hk,fun j hj => by rw [hb j hj];rfl⟩
 unfold Hp;rw [this]
theorem Gm {p:Int→Bool} {n:Nat} (hb:∀ j,j < n→p ((j:Int) + 1) = false):Hp p n = 0:=by
 have:(List.range n).find? (fun k:Nat => p ((k:Int) + 1)) = none:=by
  rw [List.find?_eq_none];intro k hk;rw [hb k (List.mem_range.1 hk)];decide
 unfold Hp;rw [this]
def CB (s:Ao) (l:List AA) (i:Int) (n:Nat):Int:=Hp (fun x => decide (GU l i x≤Au (Ak s) x)) n
theorem Je (s:Ao) (a:Option Addr) (l:List AA) (c i:Nat) (t:AA) (w:World) (h:AE s = true) (hl:A1 w a l) (hok:AF l = true) (ht:l[i]? = some t) :
 Calls Tryz.prog 211 #[.agg #[.int .i64 s.k,.int .i64 s.q,.int .i64 s.t],.slice a l.length c,.int .i64 i] w fun e w' => e = .returned (.tuple #[.int .i64 (CB s l i t.d.toNat),.bool (decide (CB s l i t.d.toNat ≠ 0))])∧Gr w w':=by
 have hlt:=BQ hok ht;have hil:=AQ ht;have h8:=(Ay hok).2;obtain ⟨t1,t2,t3,t4,t5,t6⟩:=hlt;have hbo:=fun (x:Int) (w':World) (hx:A2 x) => EW s x w' h hx
 have hun:=fun (x:Int) (w':World) (g:Gr w w') (hx:A2 x) => Me a l c i x w' (hl.gr g) hok hx (by omega) (by omega)
 obtain ⟨r,hr⟩:=zE (CB s l i t.d.toNat);rw [← hr];refine DT ?_ hr hbo hun h hok;clear hr hbo hun h hok;intro hr hbo hun h hok;go_enter Tryz.func211,Tryz.ntmps211;go_wp2_with fail;go_loopw [8] (fun lv wr => ∃ k:Nat,(k:Int)≤t.d∧lv = .int .i64 ((k:Int) + 1)∧(∀ j,j < k→(fun x => decide (GU l i x≤Au (Ak s) x)) ((j:Int) + 1) = false)∧Gr (w.alloc (.cells #[.int .i64 s.k,.int .i64 s.q,.int .i64 s.t] 29)) wr) (fun lv _ => t.d.toNat + 1 - (intOf lv).toNat);case atStart => exact ⟨0,by omega,rfl,(fun j hj => by omega),Gr.refl _⟩
 case round =>
  obtain ⟨k,hk,rfl,hbf,hg⟩:=hrel;have gall:Gr w wr:=((Gr.refl w).alloc _).trans hg;obtain ⟨cg,fg,sg⟩:=hg.cells;simp only [zL] at cg fg sg;have k1:=fun o => cg w.heap.size o (by omega)
  clear cg fg;obtain ⟨b,off,rfl,hb,d0,d1,d2,d3⟩:=(hl.gr gall) i t ht;replace hbf:=zH hbf;replace ht:=zH ht;by_cases hlt:(k:Int) < t.d
  ·have hlo:A2 ((k:Int) + 1):=⟨by omega,by omega⟩
   have hu:=hun.out ((k:Int) + 1) wr gall hlo;have hbb:=hbo.out ((k:Int) + 1);obtain ⟨u,hu2⟩:∃ u,u = GU l i ((k:Int) + 1):=⟨_,rfl⟩
   rw [show (B5 l i ((k:Int) + 1) l.length).1 + (B5 l i ((k:Int) + 1) l.length).2 = GU l i ((k:Int) + 1) from rfl,← hu2] at hu;by_cases hfit:u≤Au (Ak s) ((k:Int) + 1)
   ·have hres:CB s l i t.d.toNat = (k:Int) + 1:=IC (by omega) (decide_eq_true (by rw [← hu2];exact hfit)) (fun j hj => hbf.out j hj);refine DT ?_ hres hu2 hu hbb hlo;clear hres hu2 hu hbb hlo;intro hres hu2 hu hbb hlo;go_wp2_with fail;refine hu.out.mono ?_;rintro e w2 ⟨rfl,g2⟩;obtain ⟨c2,f2,s2⟩:=g2.cells;have k2:=fun o => c2 w.heap.size o (by omega)
    clear c2 f2;go_wp2_with fail;refine (hbb.out _ hlo.out).mono ?_;rintro e w3 ⟨rfl,g3⟩;go_wp2_with fail;go_ret2;exact ⟨by rw [hr.out,hres.out,decide_eq_true (by omega)];rfl,(gall.trans g2).trans g3⟩
   ·have hfit2:Au (Ak s) ((k:Int) + 1) < u:=by omega
    have hnext:∀ j,j < k + 1→(fun x => decide (GU l i x≤Au (Ak s) x)) ((j:Int) + 1) = false:=fun j hj => by
     by_cases hjk:j = k
     ·rw [hjk];exact decide_eq_false (by rw [← hu2];exact hfit)
     ·exact hbf.out j (by omega)
    refine DT ?_ hnext hu2 hu hbb hlo;clear hnext hu2 hu hbb hlo;intro hnext hu2 hu hbb hlo;clear hfit;go_wp2_with fail;refine hu.out.mono ?_;rintro e w2 ⟨rfl,g2⟩;obtain ⟨c2,f2,s2⟩:=g2.cells;have k2:=fun o => c2 w.heap.size o (by omega)
    clear c2 f2;go_wp2_with fail;refine (hbb.out _ hlo.out).mono ?_;rintro e w3 ⟨rfl,g3⟩;go_wp2_with fail;go_roundw;case rel => exact ⟨k + 1,by omega,by go_num,hnext.out,(hg.trans g2).trans g3⟩
    case measure => simp [intOf];omega
  ·have hres:CB s l i t.d.toNat = 0:=Gm (fun j hj => hbf.out j (by omega));replace hres:=zH hres;go_wp2_with fail;go_ret2;exact ⟨by rw [hr.out,hres.out];rfl,gall⟩
abbrev wh:Ao:=⟨0,0,0⟩
theorem HH {x y:Int} (h:x < y):BS x y < 0:=by unfold BS;rw [if_pos h];decide
theorem L5 {x y:Int} (h:x≤y):BS x y≤0:=by
 unfold BS;by_cases h1:x < y
 ·rw [if_pos h1];decide
 ·rw [if_neg h1,if_neg (by omega)];decide
theorem DB {s:Ao} (h:BK s = true):Ak s = ⟨0,1,1⟩:=by unfold Ak;rw [if_pos h]
theorem Ig {s:Ao}:BK s = true ↔ s.k = 0∧s.q = 0∧s.t = 0:=by unfold BK;exact decide_eq_true_iff
theorem LQ {s:Ao} (h:AE s = true) (hw:BK s = false):OE s:=by
 unfold AE at h;rw [hw,Bool.false_or] at h;exact (Ao.leg_iff s).1 h
theorem Fx {s:Ao} (hw:BK s = false):(Ak s).q = s.q∧(Ak s).t = s.t∧((Ak s).gap = s.t - s.q ∨ (Ak s).gap = s.t - 1):=by
 unfold Ak;rw [if_neg (by rw [hw];decide)];split
 ·exact ⟨rfl,rfl,.inl rfl⟩
 ·exact ⟨rfl,rfl,.inr rfl⟩
theorem EJ {s:Ao} (p:Int × Int) (h:AE s = true) (hw:BK s = true):ND none p s = BS p.1 p.2:=by
 unfold ND;rw [if_pos (by rw [I1];exact h),if_pos (Ig.1 hw)]
theorem GI {s:Ao} (p:Int × Int) (h:AE s = true) (hw:BK s = false):ND none p s = BS (p.1 * s.t) (p.2 * s.q):=by
 unfold ND;rw [if_pos (by rw [I1];exact h),if_neg (fun hh => by rw [Ig.2 hh] at hw;cases hw)]
theorem LY {s:Ao} {l:List Ao} (h:AE s = true) (hs:Bm l = none) (h1:BU s (Ah l) (2 * Bl l) = true) (h2:Cr s (AN l 4096) (Bc l) = true):Am s l = none:=by
 unfold Am DM;rw [if_neg (by rw [h];decide),hs,h1,h2];rfl
theorem Kh {s:Ao} (h:AE s = true):Am s [] = none:=by
 have hr:=Be h;have q1:=hr.q1;have g0:=hr.g0;have g1:=hr.g1;have t2:=hr.t2;have qt:=hr.qt;refine LY h (by decide) ?_ ?_
 ·unfold BU;rw [show Ah [] = (0,1) from rfl,show Bl [] = 0 from rfl];have h1:ND none ((0,1):Int × Int) s < 0:=by
   cases hw:BK s with
   | true => rw [EJ _ h hw];exact HH (by decide)
   | false =>
    rw [GI _ h hw];have:=(LQ h hw).2.2.1;exact HH (by dsimp only;omega)
  rw [decide_eq_true h1,decide_eq_true (L5 _)]
  ·rfl
  ·have:=Int.mul_nonneg (show 0≤(Ak s).q by omega) (show 0≤4096 - DG (Ak s) by unfold DG;omega);dsimp only;omega
 ·have h0:∀ n,AN [] n = []:=by
   intro n;induction n with
   | zero => rfl
   | succ n ih => rw [AN,ih];rfl
  unfold Cr;rw [h0];rfl
end Go.Proofs.YtdfelohjdkcpkaaGreatDoor
namespace Go.Proofs.YtdfelohjdkcpkaaGreatDoor
end Go.Proofs.YtdfelohjdkcpkaaGreatDoor
namespace Go.Proofs.YtdfelohjdkcpkaaGreatDoor
open Go.RowKit
theorem B3 (s:Ao) (w:World) :
 Calls Tryz.prog 103 #[.agg #[.int .i64 s.k,.int .i64 s.q,.int .i64 s.t]] w fun e w' => e = .returned (.bool (AE s))∧Gr w w':=by
 have hs:=fun w => EL s ⟨0,0,0⟩ w
 dsimp only at hs;rw [show decide (s.k = 0∧s.q = 0∧s.t = 0) = BK s from rfl] at hs;have hl:=CM s;unfold AE;cases hw:BK s with
 | true =>
  rw [hw] at hs;replace hw:=zH hw;replace hl:=zH hl;go_enter Tryz.func103,Tryz.ntmps103;go_wp2_with fail;go_ret;exact ⟨rfl,(by repeat (first | exact Gr.refl _ | apply Gr.alloc | apply Gr.drew | apply Gr.drewN | (refine Gr.setCell ?_ (by first | (simp;done) | (simp;omega)) _) | (refine Gr.trans ?_ (by assumption))))⟩
 | false =>
  rw [hw] at hs;rw [Bool.false_or];replace hw:=zH hw;replace hl:=zH hl;go_enter Tryz.func103,Tryz.ntmps103;go_wp2_with fail;refine (hl.out _).mono ?_;rintro e wa ⟨rfl,ga⟩;obtain ⟨ca,fa,sa⟩:=ga.cells;try simp only [Aa] at ca fa sa
  try simp only [zL] at ca fa sa
  try simp only [zD] at ca fa sa
  try simp only [zS] at ca fa sa
  have za0:w.heap.size < wa.heap.size:=by omega
  have ya0:w.heap.size≤wa.heap.size:=by omega
  have ka0:=fun o => ca (w.heap.size) o (by omega)
  have ja0:=fun o => fa (w.heap.size) o (by omega)
  go_wp2_with fail;go_ret;exact ⟨rfl,(by repeat (first | exact Gr.refl _ | apply Gr.alloc | apply Gr.drew | apply Gr.drewN | (refine Gr.setCell ?_ (by first | (simp;done) | (simp;omega)) _) | (refine Gr.trans ?_ (by assumption))))⟩
def FW (s:Ao) (l:List AA) (i:Nat):Int:=match l[i]? with
 | some t => CB s l i t.d.toNat
 | none => 0
def DP (s:Ao) (l:List AA):Bool:=(List.range l.length).all fun i => decide (FW s l i ≠ 0)
theorem FV {s:Ao} {l:List AA} {i:Nat} {t:AA} (h:l[i]? = some t):FW s l i = CB s l i t.d.toNat:=by unfold FW;rw [h]
theorem MW {G:List Nat} {E:Nat→Addr} (s:Ao) (p:Int) (a:Option Addr) (l:List AA) (c:Nat) (w:World) (hE:CK G E w) (i0:9 ∈ G) (h:AE s = false) :
 Calls Tryz.prog 170 #[.agg #[.int .i64 s.k,.int .i64 s.q,.int .i64 s.t],.int .i64 p,.slice a l.length c] w fun e w' => e = .returned (Value.iface 384 (.pointer (some (E 9))))∧Gr w w':=by
 have hsi:=fun w hE => G3 (G:=G) (E:=E) s w hE i0 h
 replace hsi:=zH hsi;replace h:=zH h;go_enter Tryz.func170,Tryz.ntmps170;go_wp2_with fail;refine (hsi.out _ (hE.gr (((Gr.refl w).alloc _).alloc _))).mono ?_;rintro e w1 ⟨rfl,g1⟩;obtain ⟨c1,f1,s1⟩:=g1.cells;try simp only [Aa] at c1 f1 s1
 try simp only [zL] at c1 f1 s1
 try simp only [zD] at c1 f1 s1
 try simp only [zS] at c1 f1 s1
 have z10:w.heap.size < w1.heap.size:=by omega
 have y10:w.heap.size≤w1.heap.size:=by omega
 have k10:=fun o => c1 (w.heap.size) o (by omega)
 have j10:=fun o => f1 (w.heap.size) o (by omega)
 have z11:w.heap.size + 1 < w1.heap.size:=by omega
 have k11:=fun o => c1 (w.heap.size + 1) o (by omega)
 have j11:=fun o => f1 (w.heap.size + 1) o (by omega)
 go_wp2_with fail;go_ret;exact ⟨rfl,(((Gr.refl w).alloc _).alloc _).trans g1⟩
theorem MX {G:List Nat} {E:Nat→Addr} (s:Ao) (p:Int) (a:Option Addr) (l:List AA) (c:Nat) (w:World) (hE:CK G E w) (i4:10 ∈ G) (h:AE s = true) (hl:A1 w a l) (hm:l.length≤maxLen) (hg:AW p l = false) :
 Calls Tryz.prog 170 #[.agg #[.int .i64 s.k,.int .i64 s.q,.int .i64 s.t],.int .i64 p,.slice a l.length c] w fun e w' => e = .returned (Value.iface 384 (.pointer (some (E 10))))∧Gr w w':=by
 have hsi:=fun w => BM s w h
 have hcg:=fun w' (g:Gr w w') => E6 p a l c w' (hE.gr g) i4 (hl.gr g) hm hg
 refine B0 ?_ hsi hcg h hg;clear hsi hcg h hg;intro hsi hcg h hg;go_enter Tryz.func170,Tryz.ntmps170;go_wp2_with fail;refine (hsi.out _).mono ?_;rintro e w1 ⟨rfl,g1⟩;obtain ⟨c1,f1,s1⟩:=g1.cells;try simp only [Aa] at c1 f1 s1
 try simp only [zL] at c1 f1 s1
 try simp only [zD] at c1 f1 s1
 try simp only [zS] at c1 f1 s1
 have z10:w.heap.size < w1.heap.size:=by omega
 have y10:w.heap.size≤w1.heap.size:=by omega
 have k10:=fun o => c1 (w.heap.size) o (by omega)
 have j10:=fun o => f1 (w.heap.size) o (by omega)
 have z11:w.heap.size + 1 < w1.heap.size:=by omega
 have k11:=fun o => c1 (w.heap.size + 1) o (by omega)
 have j11:=fun o => f1 (w.heap.size + 1) o (by omega)
 have gA:Gr w w1:=(((Gr.refl w).alloc _).alloc _).trans g1;go_wp2_with fail;go_wp2_with fail;refine (hcg.out _ gA).mono ?_;rintro e w2 ⟨rfl,g2⟩;obtain ⟨c2,f2,s2⟩:=g2.cells;try simp only [Aa] at c2 f2 s2
 try simp only [zL] at c2 f2 s2
 try simp only [zD] at c2 f2 s2
 try simp only [zS] at c2 f2 s2
 have z20:w.heap.size < w2.heap.size:=by omega
 have y20:w.heap.size≤w2.heap.size:=by omega
 have k20:=fun o => c2 (w.heap.size) o (by omega)
 have j20:=fun o => f2 (w.heap.size) o (by omega)
 have z21:w.heap.size + 1 < w2.heap.size:=by omega
 have k21:=fun o => c2 (w.heap.size + 1) o (by omega)
 have j21:=fun o => f2 (w.heap.size + 1) o (by omega)
 go_wp2_with fail;go_ret;exact ⟨rfl,gA.trans g2⟩
theorem Lm {G:List Nat} {E:Nat→Addr} (s:Ao) (a:Option Addr) (l:List AA) (c:Nat) (w:World) (hE:CK G E w) (i1:11 ∈ G) (h:AE s = true) (hl:A1 w a l) (hg:AW 2 l = true) :
 Calls Tryz.prog 170 #[.agg #[.int .i64 s.k,.int .i64 s.q,.int .i64 s.t],.int .i64 2,.slice a l.length c] w fun e w' => e = .returned (if DP s l = true then .nilIface else (Value.iface 384 (.pointer (some (E 11)))))∧Gr w w':=by
 have hsi:=fun w => BM s w h
 have hcg:=fun w' (g:Gr w w') => Ck 2 a l c w' (hl.gr g) hg
 obtain ⟨_,_,hok⟩:=(Bj 2 l).1 hg;have hre:=fun i t (ht:l[i]? = some t) w' (g:Gr w w') => Je s a l c i t w' h (hl.gr g) hok ht
 have h8:=(Ay hok).2;obtain ⟨v,hv⟩:=zE (DP s l);rw [← hv];replace hv:=zH hv;obtain ⟨F,hF⟩:∃ F:Value,F = if v = true then .nilIface else (Value.iface 384 (.pointer (some (E 11)))):=⟨_,rfl⟩
 rw [← hF];refine Fm ?_ hF hsi hcg hre h hg hok;clear hF hsi hcg hre h hg hok;intro hF hsi hcg hre h hg hok;go_enter Tryz.func170,Tryz.ntmps170;go_wp2_with fail;refine (hsi.out _).mono ?_;rintro e w1 ⟨rfl,g1⟩;obtain ⟨c1,f1,s1⟩:=g1.cells;try simp only [Aa] at c1 f1 s1
 try simp only [zL] at c1 f1 s1
 try simp only [zD] at c1 f1 s1
 try simp only [zS] at c1 f1 s1
 have z10:w.heap.size < w1.heap.size:=by omega
 have y10:w.heap.size≤w1.heap.size:=by omega
 have k10:=fun o => c1 (w.heap.size) o (by omega)
 have j10:=fun o => f1 (w.heap.size) o (by omega)
 have z11:w.heap.size + 1 < w1.heap.size:=by omega
 have k11:=fun o => c1 (w.heap.size + 1) o (by omega)
 have j11:=fun o => f1 (w.heap.size + 1) o (by omega)
 have gA:Gr w w1:=(((Gr.refl w).alloc _).alloc _).trans g1;go_wp2_with fail;go_wp2_with fail;refine (hcg.out _ gA).mono ?_;rintro e w2 ⟨rfl,g2⟩;obtain ⟨c2,f2,s2⟩:=g2.cells;try simp only [Aa] at c2 f2 s2
 try simp only [zL] at c2 f2 s2
 try simp only [zD] at c2 f2 s2
 try simp only [zS] at c2 f2 s2
 have z20:w.heap.size < w2.heap.size:=by omega
 have y20:w.heap.size≤w2.heap.size:=by omega
 have k20:=fun o => c2 (w.heap.size) o (by omega)
 have j20:=fun o => f2 (w.heap.size) o (by omega)
 have z21:w.heap.size + 1 < w2.heap.size:=by omega
 have k21:=fun o => c2 (w.heap.size + 1) o (by omega)
 have j21:=fun o => f2 (w.heap.size + 1) o (by omega)
 have gB:=gA.trans g2;go_wp2_with fail;go_loopw [38] (fun iv wr => ∃ k:Nat,k≤l.length∧iv = .int .i64 k∧(∀ j,j < k→FW s l j ≠ 0)∧Gr w2 wr) (fun iv _ => l.length - (intOf iv).toNat);case atStart => exact ⟨0,Nat.zero_le _,rfl,(fun j hj => by omega),Gr.refl _⟩
 case round =>
  obtain ⟨k,hk,rfl,hbf,hgg⟩:=hrel;have gall:=gB.trans hgg;obtain ⟨cg,fg,sg⟩:=hgg.cells;have k1:=fun o => cg w.heap.size o (by omega)
  have k2':=fun o => cg (w.heap.size + 1) o (by omega)
  clear cg fg;replace hbf:=zH hbf;by_cases hlt:k < l.length
  ·obtain ⟨t,ht⟩:=Ac l k hlt;have hr:=hre.out k t ht wr gall;have hra:=FV (s:=s) ht;obtain ⟨r,hrr⟩:=zE (CB s l k t.d.toNat);rw [← hrr] at hr hra;by_cases h0:r = 0
   ·have hvf:v = false:=by
     rw [hv.out];unfold DP;cases hh:(List.range l.length).all fun i => decide (FW s l i ≠ 0) with
     | false => rfl
     | true =>
      have:=of_decide_eq_true (List.all_eq_true.1 hh k (List.mem_range.2 hlt));rw [hra,h0] at this;exact absurd rfl this
    rw [h0,show decide ((0:Int) ≠ 0) = false from rfl] at hr;refine Dn ?_ hr hra ht hrr h0 hvf;clear hr hra ht hrr h0 hvf;intro hr hra ht hrr h0 hvf;go_wp2_with fail;refine hr.out.mono ?_;rintro e w3 ⟨rfl,g3⟩;have he:=(hE.gr (gall.trans g3)).c0 i1;go_wp2_with fail;go_ret;exact ⟨by rw [hF.out,hvf.out];rfl,gall.trans g3⟩
   ·rw [decide_eq_true h0] at hr;have hnext:∀ j,j < k + 1→FW s l j ≠ 0:=fun j hj => by
     by_cases hjk:j = k
     ·rw [hjk,hra];exact h0
     ·exact hbf.out j (by omega)
    refine Dn ?_ hnext hr hra ht hrr h0;clear hnext hr hra ht hrr h0;intro hnext hr hra ht hrr h0;go_wp2_with fail;refine hr.out.mono ?_;rintro e w3 ⟨rfl,g3⟩;go_wp2_with fail;go_roundw;case rel => exact ⟨k + 1,by omega,by go_num,hnext.out,hgg.trans g3⟩
    case measure => simp [intOf];omega
  ·have hvt:v = true:=by
    rw [hv.out];unfold DP;rw [List.all_eq_true];intro i hi;exact decide_eq_true (hbf.out i (by have:=List.mem_range.1 hi;omega))
   replace hvt:=zH hvt;go_wp2_with fail;go_ret;exact ⟨by rw [hF.out,hvt.out];rfl,gall⟩
theorem Gc {α:Type} (f:α→Int) (a b:List α):A0 f (a ++ b) = A0 f a + A0 f b:=by
 induction a with
 | nil => simp [A0]
 | cons x r ih => rw [List.cons_append,BD,BD,ih];omega
theorem GZ {α:Type} (f:α→Int) (a b:List α) (x:α):A0 f (a ++ x :: b) = A0 f (a ++ b) + f x:=by rw [Gc,Gc,BD];omega
theorem Gd {l m:List Ao} (h:l.Perm m):Ah l = Ah m:=by
 have key:∀ (l m:List Ao),l.Perm m→∀ p,l.foldl (fun p s => CI p s.q s.t) p = m.foldl (fun p s => CI p s.q s.t) p:=by
  intro l m h;induction h with
  | nil => intro p;rfl
  | cons x _ ih => intro p;exact ih _
  | swap x y l =>
   intro p;rw [List.foldl_cons,List.foldl_cons,List.foldl_cons,List.foldl_cons];congr 1;simp only [CI];refine Prod.ext ?_ ?_
   ·simp only [Int.add_mul,Int.mul_assoc];rw [Int.mul_comm y.t x.t,Int.mul_comm y.q x.t,Int.mul_comm y.t x.q];omega
   ·simp only [Int.mul_assoc];rw [Int.mul_comm y.t]
  | trans _ _ ih1 ih2 => intro p;rw [ih1,ih2]
 exact key l m h _
theorem JJ (a b:List Ao) (x:Ao):Ah (a ++ x :: b) = CI (Ah (a ++ b)) x.q x.t:=by
 rw [← CU];refine Gd ?_;have h1:(a ++ x :: b).Perm (x :: (a ++ b)):=List.perm_middle;have h2:(x :: (a ++ b)).Perm ((a ++ b) ++ [x]):=(List.perm_append_singleton x (a ++ b)).symm;exact h1.trans h2
theorem Cn {x y:Int}:BS x y < 0 ↔ x < y:=by
 constructor
 ·intro h;unfold BS at h;by_cases h1:x < y
  ·exact h1
  ·rw [if_neg h1] at h;split at h <;> omega
 ·exact HH
theorem EA {x y:Int}:BS x y≤0 ↔ x≤y:=by
 constructor
 ·intro h;unfold BS at h;by_cases h1:x < y
  ·omega
  ·rw [if_neg h1] at h;split at h <;> omega
 ·exact L5
theorem Ke {n d q t A B:Int} (hd:0≤d) (hq:0≤q) (ht:1≤t) (hA:0≤A) (h:(n * t + d * q) * A < (d * t) * B):n * A < d * B:=by
 have h1:0≤d * q * A:=Int.mul_nonneg (Int.mul_nonneg hd hq) hA;have e1:(n * t + d * q) * A = t * (n * A) + d * q * A:=by rw [Int.add_mul,Int.mul_comm n t,Int.mul_assoc]
 have e2:d * t * B = t * (d * B):=by rw [Int.mul_comm d t,Int.mul_assoc]
 rw [e1,e2] at h;exact Int.lt_of_mul_lt_mul_left (a:=t) (by omega) (by omega)
theorem N7 {n d q t A B m m':Int} (hd:0≤d) (hq:0≤q) (ht:1≤t) (hA:0≤A) (hm:m'≤m) (h:((n * t + d * q) * 4096 + (d * t) * m) * A≤(d * t) * B):(n * 4096 + d * m') * A≤d * B:=by
 have h0:0≤d * t:=Int.mul_nonneg hd (by omega);have h1:0≤d * q:=Int.mul_nonneg hd hq;have h2:d * t * m'≤d * t * m:=Int.mul_le_mul_of_nonneg_left hm h0;have h3:(n * t * 4096 + d * t * m') * A≤((n * t + d * q) * 4096 + d * t * m) * A:=Int.mul_le_mul_of_nonneg_right (by rw [Int.add_mul];omega) hA;have e1:(n * t * 4096 + d * t * m') * A = t * ((n * 4096 + d * m') * A):=by
  rw [← Int.mul_assoc,Int.mul_add,Int.mul_comm n t,Int.mul_comm d t,Int.mul_assoc t n,Int.mul_assoc t d]
 have e2:d * t * B = t * (d * B):=by rw [Int.mul_comm d t,Int.mul_assoc]
 rw [e1] at h3;rw [e2] at h;exact Int.le_of_mul_le_mul_left (a:=t) (by omega) (by omega)
theorem IV {s:Ao} {l:List Ao} (hp:AE s = true) (hal:AY l = true) (hb:Cr s (AN l 4096) (Bc l) = true):∀ n:Nat,n≤4096→Bc l n≤Au (Ak s) n:=by
 intro n;induction n with
 | zero =>
  intro _;have:=IJ l hal;have:=Bx (Be hp) ((0:Nat):Int);simp only [Int.natCast_zero] at *;omega
 | succ n ih =>
  intro _;have h1:=ih (by omega);by_cases hg:Bc l n < Bc l ((n:Int) + 1)
  ·have hm:=AL (Mk (n:=4096) (by omega) hg);unfold Cr at hb;have:=of_decide_eq_true (List.all_eq_true.1 hb _ hm)
   exact_mod_cast this
  ·have h2:=Ko (Be hp) (show (n:Int)≤(n:Int) + 1 by omega);have h3:Bc l ((n:Int) + 1)≤Au (Ak s) ((n:Int) + 1):=by omega
   exact_mod_cast h3
theorem Df {s:Ao} {l:List Ao} (h:Am s l = none):AE s = true∧Bm l = none∧BU s (Ah l) (2 * Bl l) = true∧Cr s (AN l 4096) (Bc l) = true:=by
 unfold Am at h;cases hp:AE s with
 | false => rw [if_pos hp] at h;cases h
 | true =>
  rw [if_neg (by rw [hp];decide)] at h;cases hs:Bm l with
  | some g => rw [hs] at h;cases h
  | none =>
   rw [hs] at h;dsimp only at h;cases hk:DM s l with
   | false => rw [hk,if_neg (by decide)] at h;cases h
   | true =>
    unfold DM at hk;rw [Bool.and_eq_true] at hk;exact ⟨rfl,rfl,hk.1,hk.2⟩
theorem Ml {a b:List Ao} {x:Ao} (h:Bm (a ++ x :: b) = none):Bm (a ++ b) = none∧x.leg = true∧AY (a ++ b) = true∧AY (a ++ x :: b) = true:=by
 obtain ⟨h1,h2⟩:=Ce h;have h3:AY (a ++ b) = true∧x.leg = true:=by
  unfold AY at h1 ⊢;rw [List.all_append,List.all_cons] at h1;rw [List.all_append];simp only [Bool.and_eq_true] at h1 ⊢;exact ⟨⟨h1.1,h1.2.2⟩,h1.2.1⟩
 refine ⟨?_,h3.2,h3.1,h1⟩;have h4:(a ++ b).length≤8:=by rw [List.length_append] at h2 ⊢;rw [List.length_cons] at h2;omega
 unfold Bm;rw [if_neg (by rw [h3.1];decide),if_neg (by omega)]
theorem Lk {s:Ao} {a b:List Ao} {x:Ao} (h:Am s (a ++ x :: b) = none):Am s (a ++ b) = none:=by
 obtain ⟨hp,hs,hl,hb⟩:=Df h;obtain ⟨hs',hx,hal',hal⟩:=Ml hs;obtain ⟨x1,x2,x3,x4,x5⟩:=(Ao.leg_iff x).1 hx;have hsh:=E9 hs';obtain ⟨p1,p2,p3,p4⟩:=hsh;have hr:=Be hp;have t1:0≤(Ak s).t:=by have:=hr.q1;have:=hr.qt;omega
 refine LY hp hs' ?_ ?_
 ·unfold BU at hl ⊢;rw [JJ,show Bl (a ++ x :: b) = Bl (a ++ b) + x.q from GZ _ a b x] at hl;rw [Bool.and_eq_true,decide_eq_true_iff,decide_eq_true_iff] at hl ⊢;obtain ⟨l1,l2⟩:=hl;refine ⟨?_,?_⟩
  ·cases hw:BK s with
   | true =>
    rw [EJ _ hp hw] at l1 ⊢;rw [Cn] at l1 ⊢;have:=Ke (A:=1) (B:=1) (n:=(Ah (a ++ b)).1) (d:=(Ah (a ++ b)).2) (q:=x.q) (t:=x.t) (by omega) (by omega) (by omega) (by decide) (by simpa [CI] using l1);simpa using this
   | false =>
    rw [GI _ hp hw] at l1 ⊢;rw [Cn] at l1 ⊢;obtain ⟨_,_,y3,y4,_⟩:=LQ hp hw;exact Ke (q:=x.q) (t:=x.t) (by omega) (by omega) (by omega) (by omega) l1
  ·rw [EA] at l2 ⊢;exact N7 (q:=x.q) (t:=x.t) (by omega) (by omega) (by omega) t1 (by omega) l2
 ·unfold Cr;rw [List.all_eq_true];intro y hy;have hy1:=EK _ _ y hy;refine decide_eq_true ?_;have h1:=IV hp hal hb y.toNat (by omega);rw [show ((y.toNat:Nat):Int) = y by omega] at h1;have h2:Bc (a ++ x :: b) y = Bc (a ++ b) y + AX x y:=GZ _ a b x;have h3:=Cu (s:=x) (l:=y) ⟨x1,x2,x3,x4,x5⟩ ⟨by omega,by omega⟩;omega
end Go.Proofs.YtdfelohjdkcpkaaGreatDoor
