/- Package demand: the tasks. -/
import Derived.Test.YtdfelohjdkcpkaaGreatDoorK2
import Derived.Test.YtdfelohjdkcpkaaGreatDoorK4
import Derived.Lib.MinMax
import Derived.Test.YtdfelohjdkcpkaaGreatDoorK6
import Derived.Test.YtdfelohjdkcpkaaGreatDoorK1
import Derived.Test.YtdfelohjdkcpkaaGreatDoorK5
namespace Go.Proofs.YtdfelohjdkcpkaaGreatDoor
open Go.RowKit
def chkT (l:List Tsk) (n:Int):Option Nat:=if tasksOk l = false then some 10 else if n < 0 ∨ 1099511627776 < n then some 1 else none
theorem chkT_none {l:List Tsk} {n:Int} (h:chkT l n = none):tasksOk l = true∧LenOk n:=by
 unfold chkT at h;split at h
 ·cases h
 ·split at h
  ·cases h
  ·rename_i h1 h2;exact ⟨by simpa using h1,by unfold LenOk;omega⟩
theorem tasksOk_parts {l:List Tsk} (h:tasksOk l = true):(∀ t ∈ l,LegT t)∧l.length≤8:=by
 simp only [tasksOk,Bool.and_eq_true,decide_eq_true_eq] at h;exact ⟨fun t ht => (Tsk.leg_iff t).1 (List.all_eq_true.1 h.1 t ht),h.2⟩
set_option maxHeartbeats 400000 in
theorem task_any (s:Tsk) (l:Int) (w:World) (hs:LegT s) (hl:LenOk l) :
 Calls Tryz.prog 247 #[.agg #[.int .i64 s.c,.int .i64 s.p,.int .i64 s.d,.int .i64 s.s],.int .i64 l] w fun e w' => e = .returned (.int .i64 (taskI s l))∧Gr w w':=by
 obtain ⟨h1,h2,h3,h4,h5,h6⟩:=hs;obtain ⟨l1,l2⟩:=hl;unfold taskI;by_cases hd:l < s.d
 ·rw [if_pos hd];go_enter Tryz.func247,Tryz.ntmps247;go_wp2_with fail;go_ret;refine ⟨rfl,?_⟩;repeat (first | exact Gr.refl _ | apply Gr.alloc | apply Gr.drew | apply Gr.drewN | (refine Gr.setCell ?_ (by simp) _) | (refine Gr.trans ?_ (by assumption)))
 ·rw [if_neg hd];have hq:=quo_mul_le (l:=l - s.d) (q:=s.c) (t:=s.p) (by omega) (by omega) (by omega) (by omega);obtain ⟨q0,q1,q2⟩:=hq;have q3:0≤((l - s.d) / s.p + 1) * s.c∧((l - s.d) / s.p + 1) * s.c≤1099511627776 + 256:=by
   rw [Int.add_mul,Int.one_mul];omega
  have q4:(l - s.d) / s.p≤1099511627776:=by
   have:=Int.ediv_le_self (a:=l - s.d) s.p (by omega);omega
  obtain ⟨q5,q6⟩:=q3;have h7:1≤s.p:=by omega
  clear q1 q2;go_enter Tryz.func247,Tryz.ntmps247;go_wp2_with fail;go_quiet (fail);go_wp2_with fail;go_ret;refine ⟨rfl,?_⟩;repeat (first | exact Gr.refl _ | apply Gr.alloc | apply Gr.drew | apply Gr.drewN | (refine Gr.setCell ?_ (by simp) _) | (refine Gr.trans ?_ (by assumption)))
set_option maxHeartbeats 800000 in
theorem dcheckTasks_yes (a:Option Addr) (l:List Tsk) (c:Nat) (n:Int) (w:World) (hl:TsksAt w a l) (h:chkT l n = none) :
 Calls Tryz.prog 246 #[.slice a l.length c,.int .i64 n] w fun e w' => e = .returned .nilIface∧Gr w w':=by
 obtain ⟨h1,h3⟩:=chkT_none h;clear h;replace h1:=Lib.hid h1;go_enter Tryz.func246,Tryz.ntmps246;go_wp2_with fail;refine (tasks_yes a l c _ hl h1.out).mono ?_;rintro e wa ⟨rfl,ga⟩;obtain ⟨ca,fa,sa⟩:=ga.cells;try simp only [size_drewN] at ca fa sa
 try simp only [World.size_alloc] at ca fa sa
 try simp only [World.size_drew] at ca fa sa
 try simp only [World.size_setCell] at ca fa sa
 go_wp2_with fail;refine (length_yes n _ h3).mono ?_;rintro e wb ⟨rfl,rfl⟩;go_wp2_with fail;go_ret;exact ⟨rfl,ga.alloc _⟩
end Go.Proofs.YtdfelohjdkcpkaaGreatDoor
namespace Go.Proofs.YtdfelohjdkcpkaaGreatDoor
open Go.RowKit
def blkI (l:List Tsk) (n:Int):Int:=l.foldl (fun b t => if n < t.d then max b (t.s - 1) else b) 0
theorem blkI_snoc (l:List Tsk) (t:Tsk) (n:Int):blkI (l ++ [t]) n = if n < t.d then max (blkI l n) (t.s - 1) else blkI l n:=by unfold blkI;rw [List.foldl_append];rfl
def tsumI (l:List Tsk) (n:Int):Int:=sumI (fun t => taskI t n) l
def tasksI (l:List Tsk) (n:Int):Int:=if tsumI l n = 0 then 0 else tsumI l n + blkI l n
def untP (l:List Tsk) (i n:Int):Nat→Int × Int
 | 0 => (0,0)
 | k + 1 => match l[k]? with
  | none => untP l i n k
  | some t => if (k:Int)≤i then ((untP l i n k).1 + upI n t.p * t.c,(untP l i n k).2) else ((untP l i n k).1,max (untP l i n k).2 (t.s - 1))
theorem untP_le {l:List Tsk} {i n:Int} {k:Nat} {t:Tsk} (h:l[k]? = some t) (hk:(k:Int)≤i):untP l i n (k + 1) = ((untP l i n k).1 + upI n t.p * t.c,(untP l i n k).2):=by rw [untP,h];exact if_pos hk
theorem untP_gt {l:List Tsk} {i n:Int} {k:Nat} {t:Tsk} (h:l[k]? = some t) (hk:¬ (k:Int)≤i):untP l i n (k + 1) = ((untP l i n k).1,max (untP l i n k).2 (t.s - 1)):=by rw [untP,h];exact if_neg hk
theorem legT_mem {l:List Tsk} (h:tasksOk l = true) {k:Nat} {t:Tsk} (ht:l[k]? = some t):LegT t:=(tasksOk_parts h).1 t (get_mem ht)
theorem untP_bd {l:List Tsk} {i n:Int} (h:tasksOk l = true) (hn:LenOk n) (k:Nat):0≤(untP l i n k).1∧(untP l i n k).1≤k * (1099511627776 + 512)∧0≤(untP l i n k).2∧(untP l i n k).2≤256:=by
 induction k with
 | zero => exact ⟨Int.le_refl _,by simp [untP],Int.le_refl _,by simp [untP]⟩
 | succ k ih =>
  cases ht:l[k]? with
  | none => rw [untP,ht];refine ⟨ih.1,?_,ih.2.2⟩;have:=ih.2.1;push_cast;rw [Int.add_mul];omega
  | some t =>
   obtain ⟨h1,h2,h3,h4,h5,h6⟩:=legT_mem h ht;have:=up_mul_le hn.1 (show 0≤t.c by omega) (show 1≤t.p by omega) (show t.c≤t.p by omega);have hn2:=hn.2;have e:((k + 1:Nat):Int) * (1099511627776 + 512) = k * (1099511627776 + 512) + (1099511627776 + 512):=by push_cast;rw [Int.add_mul];omega
   rw [e];by_cases hk:(k:Int)≤i
   ·rw [untP_le ht hk];exact ⟨by dsimp only;omega,by dsimp only;omega,ih.2.2⟩
   ·rw [untP_gt ht hk];exact ⟨ih.1,by dsimp only;omega,by dsimp only;omega,by dsimp only;omega⟩
theorem tsumI_bd {l:List Tsk} (h:tasksOk l = true) {n:Int} (hn:LenOk n) (k:Nat):0≤tsumI (l.take k) n∧tsumI (l.take k) n≤8 * (1099511627776 + 256):=by
 have hp:=tasksOk_parts h;have:=sumI_bd (fun t => taskI t n) (l.take k) (1099511627776 + 256) (fun x hx => task_bd (hp.1 x (List.mem_of_mem_take hx)) hn);have hl:(l.take k).length≤8:=by rw [List.length_take];omega
 unfold tsumI;omega
theorem blkI_bd {l:List Tsk} (h:tasksOk l = true) {n:Int} (k:Nat):0≤blkI (l.take k) n∧blkI (l.take k) n≤256:=by
 induction k with
 | zero => rw [List.take_zero];exact ⟨Int.le_refl _,by simp [blkI]⟩
 | succ k ih =>
  cases ht:l[k]? with
  | none => rw [List.take_add_one,ht];simpa using ih
  | some t =>
   obtain ⟨h1,h2,h3,h4,h5,h6⟩:=legT_mem h ht;rw [take_snoc ht,blkI_snoc];split <;> omega
set_option maxHeartbeats 800000 in
theorem dtasks_yes (a:Option Addr) (l:List Tsk) (c:Nat) (n:Int) (w:World) (hl:TsksAt w a l) (h:chkT l n = none) :
 Calls Tryz.prog 214 #[.slice a l.length c,.int .i64 n] w fun e w' => e = .returned (.tuple #[.int .i64 (tasksI l n),.nilIface])∧Gr w w':=by
 obtain ⟨h1,h3⟩:=chkT_none h;have h8:=(tasksOk_parts h1).2;have hn:=h3;obtain ⟨hn1,hn2⟩:=hn;replace h:=Lib.hid h;replace h1:=Lib.hid h1;unfold tasksI;go_enter Tryz.func214,Tryz.ntmps214;go_wp2_with fail;refine (dcheckTasks_yes a l c n _ hl h.out).mono ?_;rintro e wa ⟨rfl,ga⟩;obtain ⟨ca,fa,sa⟩:=ga.cells;try simp only [size_drewN] at ca fa sa
 try simp only [World.size_alloc] at ca fa sa
 try simp only [World.size_drew] at ca fa sa
 try simp only [World.size_setCell] at ca fa sa
 go_wp2_with fail;go_loopw [19,7,8] (fun i v b wr => ∃ k:Nat,k≤l.length∧i = .int .i64 k∧v = .int .i64 (tsumI (l.take k) n)∧b = .int .i64 (blkI (l.take k) n)∧Gr w wr) (fun i _ _ _ => l.length - (intOf i).toNat);case atStart => exact ⟨0,Nat.zero_le _,rfl,rfl,rfl,ga⟩
 case round =>
  obtain ⟨k,hk,rfl,rfl,rfl,hg⟩:=hrel;obtain ⟨sb1,sb2⟩:=tsumI_bd h1.out h3 k;obtain ⟨bb1,bb2⟩:=blkI_bd h1.out (n:=n) k;by_cases hlt:k < l.length
  ·obtain ⟨s,hs⟩:=get_some l k hlt;obtain ⟨b,off,rfl,hb,c0,c1,c2,c3⟩:=(hl.gr hg) k s hs;have hleg:=legT_mem h1.out hs;obtain ⟨bd1,bd2⟩:=task_bd hleg h3;have hsn:tsumI (l.take (k + 1)) n = tsumI (l.take k) n + taskI s n:=by unfold tsumI;rw [take_snoc hs,sumI_snoc]
   have hbn:blkI (l.take (k + 1)) n = if n < s.d then max (blkI (l.take k) n) (s.s - 1) else blkI (l.take k) n:=by rw [take_snoc hs,blkI_snoc]
   have hl2:=hleg;obtain ⟨g1,g2,g3,g4,g5,g6⟩:=hl2;replace hsn:=Lib.hid hsn;generalize tsumI (l.take k) n = m at *;generalize blkI (l.take k) n = q at *;by_cases hd:n < s.d
   ·rw [if_pos hd] at hbn;replace hbn:=Lib.hid hbn;go_wp2_with fail;refine (task_any s n _ hleg h3).mono ?_;rintro e wd ⟨rfl,gd⟩;obtain ⟨cd,fd,sd⟩:=gd.cells;try simp only [size_drewN] at cd fd sd
    try simp only [World.size_alloc] at cd fd sd
    try simp only [World.size_drew] at cd fd sd
    try simp only [World.size_setCell] at cd fd sd
    have zd0:wr.heap.size < wd.heap.size:=by omega
    have yd0:wr.heap.size≤wd.heap.size:=by omega
    have kd0:=fun o => cd (wr.heap.size) o (by omega)
    have jd0:=fun o => fd (wr.heap.size) o (by omega)
    go_wp2_with fail;go_roundw;case rel => exact ⟨k + 1,by omega,by go_num,by rw [hsn.out],by rw [hbn.out],(hg.alloc _).trans gd⟩
    case measure => simp [intOf];omega
   ·rw [if_neg hd] at hbn;replace hbn:=Lib.hid hbn;go_wp2_with fail;refine (task_any s n _ hleg h3).mono ?_;rintro e wd ⟨rfl,gd⟩;obtain ⟨cd,fd,sd⟩:=gd.cells;try simp only [size_drewN] at cd fd sd
    try simp only [World.size_alloc] at cd fd sd
    try simp only [World.size_drew] at cd fd sd
    try simp only [World.size_setCell] at cd fd sd
    have zd0:wr.heap.size < wd.heap.size:=by omega
    have yd0:wr.heap.size≤wd.heap.size:=by omega
    have kd0:=fun o => cd (wr.heap.size) o (by omega)
    have jd0:=fun o => fd (wr.heap.size) o (by omega)
    go_wp2_with fail;go_roundw;case rel => exact ⟨k + 1,by omega,by go_num,by rw [hsn.out],by rw [hbn.out],(hg.alloc _).trans gd⟩
    case measure => simp [intOf];omega
  ·have hall:l.take k = l:=List.take_of_length_le (by omega);rw [hall] at sb1 sb2 bb1 bb2 ⊢;by_cases h0:tsumI l n = 0
   ·have q0:(tsumI l n == 0) = true:=by simpa using h0
    replace h0:=Lib.hid h0;go_wp2_with fail;go_ret2;exact ⟨rfl,hg⟩
   ·have q0:(tsumI l n == 0) = false:=by simpa using h0
    replace h0:=Lib.hid h0;go_wp2_with fail;go_ret2;exact ⟨rfl,hg⟩
set_option maxHeartbeats 800000 in
theorem until_yes (a:Option Addr) (l:List Tsk) (c:Nat) (i n:Int) (w:World) (hl:TsksAt w a l) (h1:tasksOk l = true) (h3:LenOk n) (hi0:0≤i) (hi1:i < l.length) :
 Calls Tryz.prog 245 #[.slice a l.length c,.int .i64 i,.int .i64 n] w fun e w' => e = .returned (.tuple #[.int .i64 ((untP l i n l.length).1 + (untP l i n l.length).2),.nilIface])∧Gr w w':=by
 have h8:=(tasksOk_parts h1).2;have hn:=h3;obtain ⟨hn1,hn2⟩:=hn;replace h1:=Lib.hid h1;go_enter Tryz.func245,Tryz.ntmps245;go_wp2_with fail;refine (tasks_yes a l c _ hl h1.out).mono ?_;rintro e wa ⟨rfl,ga⟩;obtain ⟨ca,fa,sa⟩:=ga.cells;try simp only [size_drewN] at ca fa sa
 try simp only [World.size_alloc] at ca fa sa
 try simp only [World.size_drew] at ca fa sa
 try simp only [World.size_setCell] at ca fa sa
 go_wp2_with fail;refine (length_yes n _ h3).mono ?_;rintro e wb ⟨rfl,rfl⟩;go_wp2_with fail;go_loopw [40,11,12] (fun iv v b wr => ∃ k:Nat,k≤l.length∧iv = .int .i64 k∧v = .int .i64 (untP l i n k).1∧b = .int .i64 (untP l i n k).2∧Gr w wr) (fun i _ _ _ => l.length - (intOf i).toNat);case atStart => exact ⟨0,Nat.zero_le _,rfl,rfl,rfl,ga.alloc _⟩
 case round =>
  obtain ⟨k,hk,rfl,rfl,rfl,hg⟩:=hrel;obtain ⟨sb1,sb2,bb1,bb2⟩:=untP_bd (i:=i) h1.out h3 k;by_cases hlt:k < l.length
  ·obtain ⟨s,hs⟩:=get_some l k hlt;obtain ⟨b,off,rfl,hb,c0,c1,c2,c3⟩:=(hl.gr hg) k s hs;obtain ⟨g1,g2,g3,g4,g5,g6⟩:=legT_mem h1.out hs;have p1:1≤s.p:=by omega
   obtain ⟨u1,u2,u3⟩:=up_mul_le hn1 (show 0≤s.c by omega) p1 (show s.c≤s.p by omega);have hk8:(k:Int)≤8:=by omega
   by_cases hd:(k:Int)≤i
   ·have hst:=untP_le (n:=n) hs hd;replace hst:=Lib.hid hst;generalize untP l i n k = m at *;obtain ⟨m1,m2⟩:=m;dsimp only at sb1 sb2 bb1 bb2 ⊢;have r0:=GrW.cell (w:=wr.alloc (.cells #[.int .i64 s.c,.int .i64 s.p,.int .i64 s.d,.int .i64 s.s] 41)) (b:=wr.heap.size) (o:=0) (v:=.int .i64 s.c) (by simp [go_sem]);have r1:=GrW.cell (w:=wr.alloc (.cells #[.int .i64 s.c,.int .i64 s.p,.int .i64 s.d,.int .i64 s.s] 41)) (b:=wr.heap.size) (o:=1) (v:=.int .i64 s.p) (by simp [go_sem]);go_wp2_with fail;refine wp_region_grows (by kernel_rfl) (by kernel_rfl) ?_;repeat (any_goals (first | go_big_quiet_step (first | (go_at_call 266;exact Calls.grows_same (up_any n s.p _ hn1 hn2 p1 g4))) | quiet_step (first | (go_at_call 266;exact Calls.grows_same (up_any n s.p _ hn1 hn2 p1 g4)))))
    refine wpQuiet_nil ?_;intro wf hwq;have gf:=GrW.of hwq;clear hwq;obtain ⟨cf,ff,sf⟩:=gf.cells;try simp only [size_drewN] at cf ff sf
    try simp only [World.size_alloc] at cf ff sf
    try simp only [World.size_drew] at cf ff sf
    try simp only [World.size_setCell] at cf ff sf
    have zf0:wr.heap.size < wf.heap.size:=by omega
    have yf0:wr.heap.size≤wf.heap.size:=by omega
    have kf0:=fun o => cf (wr.heap.size) o (by omega)
    have jf0:=fun o => ff (wr.heap.size) o (by omega)
    go_wp2_with fail;go_roundw;case rel => exact ⟨k + 1,by omega,by go_num,by rw [hst.out],by rw [hst.out],(hg.alloc _).trans gf⟩
    case measure => simp [intOf];omega
   ·have hst:=untP_gt (n:=n) hs hd;replace hst:=Lib.hid hst;generalize untP l i n k = m at *;obtain ⟨m1,m2⟩:=m;dsimp only at sb1 sb2 bb1 bb2 ⊢;go_wp2_with fail;go_roundw;case rel => exact ⟨k + 1,by omega,by go_num,by rw [hst.out],by rw [hst.out],hg.alloc _⟩
    case measure => simp [intOf];omega
  ·obtain rfl:k = l.length:=by omega
   go_wp2_with fail;go_ret2;exact ⟨rfl,hg⟩
set_option maxHeartbeats 800000 in
theorem rtask_any (s:Tsk) (l:Int) (w:World) (hs:LegT s) (hl:LenOk l) :
 Calls Tryz.prog 184 #[.agg #[.int .i64 s.c,.int .i64 s.p,.int .i64 s.d,.int .i64 s.s],.int .i64 l] w fun e w' => e = .returned (.int .i64 (taskI s l))∧Gr w w':=by
 have hb:=task_bd hs hl;obtain ⟨h1,h2,h3,h4,h5,h6⟩:=hs;have hl0:=hl;obtain ⟨l1,l2⟩:=hl0;unfold taskI at hb ⊢;by_cases hd:l < s.d
 ·rw [if_pos hd];go_enter Tryz.func184,Tryz.ntmps184;go_wp2_with fail;go_ret;refine ⟨rfl,?_⟩;repeat (first | exact Gr.refl _ | apply Gr.alloc | apply Gr.drew | apply Gr.drewN | (refine Gr.setCell ?_ (by simp) _) | (refine Gr.trans ?_ (by assumption)))
 ·rw [if_neg hd] at hb ⊢;have hq:=quo_mul_le (l:=l - s.d) (q:=s.c) (t:=s.p) (by omega) (by omega) (by omega) (by omega);obtain ⟨q0,q1,q2⟩:=hq;have e:((l - s.d) / s.p + 1) * s.c = s.c + s.c * ((l - s.d) / s.p):=by rw [Int.add_mul,Int.one_mul,Int.mul_comm];omega
  rw [e] at hb ⊢;rw [Int.mul_comm] at q1 q2;have p1:1≤s.p:=by omega
  have hf:=fun w => floor_any (l - s.d) s.p w ⟨by omega,by omega⟩ p1 h4
  replace hf:=Lib.hid hf;obtain ⟨hb1,hb2⟩:=hb;clear e;have r0:=GrW.cell (w:=w.alloc (.cells #[.int .i64 s.c,.int .i64 s.p,.int .i64 s.d,.int .i64 s.s] 41)) (b:=w.heap.size) (o:=0) (v:=.int .i64 s.c) (by simp [go_sem]);have r1:=GrW.cell (w:=w.alloc (.cells #[.int .i64 s.c,.int .i64 s.p,.int .i64 s.d,.int .i64 s.s] 41)) (b:=w.heap.size) (o:=1) (v:=.int .i64 s.p) (by simp [go_sem]);have r2:=GrW.cell (w:=w.alloc (.cells #[.int .i64 s.c,.int .i64 s.p,.int .i64 s.d,.int .i64 s.s] 41)) (b:=w.heap.size) (o:=2) (v:=.int .i64 s.d) (by simp [go_sem]);go_enter Tryz.func184,Tryz.ntmps184;go_wp2_with fail;refine wp_region_grows (by kernel_rfl) (by kernel_rfl) ?_;repeat (any_goals (first | go_big_quiet_step (first | (go_at_call 217;exact Calls.grows_same (hf.out _))) | quiet_step (first | (go_at_call 217;exact Calls.grows_same (hf.out _)))))
  refine wpQuiet_nil ?_;intro wf hwq;have gf:=GrW.of hwq;clear hwq;obtain ⟨cf,ff,sf⟩:=gf.cells;try simp only [size_drewN] at cf ff sf
  try simp only [World.size_alloc] at cf ff sf
  try simp only [World.size_drew] at cf ff sf
  try simp only [World.size_setCell] at cf ff sf
  have zf0:w.heap.size < wf.heap.size:=by omega
  have yf0:w.heap.size≤wf.heap.size:=by omega
  have kf0:=fun o => cf (w.heap.size) o (by omega)
  have jf0:=fun o => ff (w.heap.size) o (by omega)
  go_wp2_with fail;go_ret;refine ⟨rfl,?_⟩;repeat (first | exact Gr.refl _ | apply Gr.alloc | apply Gr.drew | apply Gr.drewN | (refine Gr.setCell ?_ (by simp) _) | (refine Gr.trans ?_ (by assumption)))
end Go.Proofs.YtdfelohjdkcpkaaGreatDoor
namespace Go.Proofs.YtdfelohjdkcpkaaGreatDoor
open Go.RowKit
set_option maxHeartbeats 1600000 in
theorem rtasks11_any (a:Option Addr) (l:List Tsk) (c:Nat) (n:Int) (w:World) (hl:TsksAt w a l) (h1:tasksOk l = true) (h3:LenOk n) :
 Calls Tryz.prog 107 #[.slice a l.length c,.int .i64 n] w fun e w' => e = .returned (.int .i64 (tasksI l n))∧Gr w w':=by
 have h8:=(tasksOk_parts h1).2;have hn:=h3;obtain ⟨hn1,hn2⟩:=hn;replace h1:=Lib.hid h1;unfold tasksI;go_enter Tryz.func107,Tryz.ntmps107;go_wp2_with fail;go_loopw [11,5,6] (fun i v b wr => ∃ k:Nat,k≤l.length∧i = .int .i64 k∧v = .int .i64 (tsumI (l.take k) n)∧b = .int .i64 (blkI (l.take k) n)∧Gr w wr) (fun i _ _ _ => l.length - (intOf i).toNat);case atStart => exact ⟨0,Nat.zero_le _,rfl,rfl,rfl,Gr.refl _⟩
 case round =>
  obtain ⟨k,hk,rfl,rfl,rfl,hg⟩:=hrel;obtain ⟨sb1,sb2⟩:=tsumI_bd h1.out h3 k;obtain ⟨bb1,bb2⟩:=blkI_bd h1.out (n:=n) k;by_cases hlt:k < l.length
  ·obtain ⟨s,hs⟩:=get_some l k hlt;obtain ⟨b,off,rfl,hb,c0,c1,c2,c3⟩:=(hl.gr hg) k s hs;have hleg:=legT_mem h1.out hs;obtain ⟨bd1,bd2⟩:=task_bd hleg h3;have hsn:tsumI (l.take (k + 1)) n = tsumI (l.take k) n + taskI s n:=by unfold tsumI;rw [take_snoc hs,sumI_snoc]
   have hbn:blkI (l.take (k + 1)) n = if n < s.d then max (blkI (l.take k) n) (s.s - 1) else blkI (l.take k) n:=by rw [take_snoc hs,blkI_snoc]
   have hl2:=hleg;obtain ⟨g1,g2,g3,g4,g5,g6⟩:=hl2;replace hsn:=Lib.hid hsn;generalize tsumI (l.take k) n = m at *;generalize blkI (l.take k) n = q at *;by_cases hd:n < s.d
   ·rw [if_pos hd] at hbn;by_cases hq:q < s.s - 1
    ·have hbn2:blkI (l.take (k + 1)) n = s.s - 1:=by omega
     clear hbn;replace hbn2:=Lib.hid hbn2;go_wp2_with fail;refine (rtask_any s n _ hleg h3).mono ?_;rintro e wd ⟨rfl,gd⟩;obtain ⟨cd,fd,sd⟩:=gd.cells;try simp only [size_drewN] at cd fd sd
     try simp only [World.size_alloc] at cd fd sd
     try simp only [World.size_drew] at cd fd sd
     try simp only [World.size_setCell] at cd fd sd
     have zd0:wr.heap.size < wd.heap.size:=by omega
     have yd0:wr.heap.size≤wd.heap.size:=by omega
     have kd0:=fun o => cd (wr.heap.size) o (by omega)
     have jd0:=fun o => fd (wr.heap.size) o (by omega)
     go_wp2_with fail;go_roundw;case rel => exact ⟨k + 1,by omega,by go_num,by rw [hsn.out],by rw [hbn2.out],(hg.alloc _).trans gd⟩
     case measure => simp [intOf];omega
    ·have hbn2:blkI (l.take (k + 1)) n = q:=by omega
     clear hbn;replace hbn2:=Lib.hid hbn2;go_wp2_with fail;refine (rtask_any s n _ hleg h3).mono ?_;rintro e wd ⟨rfl,gd⟩;obtain ⟨cd,fd,sd⟩:=gd.cells;try simp only [size_drewN] at cd fd sd
     try simp only [World.size_alloc] at cd fd sd
     try simp only [World.size_drew] at cd fd sd
     try simp only [World.size_setCell] at cd fd sd
     have zd0:wr.heap.size < wd.heap.size:=by omega
     have yd0:wr.heap.size≤wd.heap.size:=by omega
     have kd0:=fun o => cd (wr.heap.size) o (by omega)
     have jd0:=fun o => fd (wr.heap.size) o (by omega)
     go_wp2_with fail;go_roundw;case rel => exact ⟨k + 1,by omega,by go_num,by rw [hsn.out],by rw [hbn2.out],(hg.alloc _).trans gd⟩
     case measure => simp [intOf];omega
   ·rw [if_neg hd] at hbn;replace hbn:=Lib.hid hbn;go_wp2_with fail;refine (rtask_any s n _ hleg h3).mono ?_;rintro e wd ⟨rfl,gd⟩;obtain ⟨cd,fd,sd⟩:=gd.cells;try simp only [size_drewN] at cd fd sd
    try simp only [World.size_alloc] at cd fd sd
    try simp only [World.size_drew] at cd fd sd
    try simp only [World.size_setCell] at cd fd sd
    have zd0:wr.heap.size < wd.heap.size:=by omega
    have yd0:wr.heap.size≤wd.heap.size:=by omega
    have kd0:=fun o => cd (wr.heap.size) o (by omega)
    have jd0:=fun o => fd (wr.heap.size) o (by omega)
    go_wp2_with fail;go_roundw;case rel => exact ⟨k + 1,by omega,by go_num,by rw [hsn.out],by rw [hbn.out],(hg.alloc _).trans gd⟩
    case measure => simp [intOf];omega
  ·have hall:l.take k = l:=List.take_of_length_le (by omega);rw [hall] at sb1 sb2 bb1 bb2 ⊢;by_cases h0:tsumI l n = 0
   ·rw [h0] at sb1 sb2 ⊢;replace h0:=Lib.hid h0;go_wp2_with fail;go_ret;exact ⟨rfl,hg⟩
   ·have q0:0 < tsumI l n:=by omega
    replace h0:=Lib.hid h0;go_wp2_with fail;go_ret;exact ⟨rfl,hg⟩
set_option maxHeartbeats 1600000 in
theorem runtil11_any (a:Option Addr) (l:List Tsk) (c:Nat) (i n:Int) (w:World) (hl:TsksAt w a l) (h1:tasksOk l = true) (h3:LenOk n) (hi0:0≤i) (hi1:i < l.length) :
 Calls Tryz.prog 175 #[.slice a l.length c,.int .i64 i,.int .i64 n] w fun e w' => e = .returned (.int .i64 ((untP l i n l.length).1 + (untP l i n l.length).2))∧Gr w w':=by
 have h8:=(tasksOk_parts h1).2;have hn:=h3;obtain ⟨hn1,hn2⟩:=hn;replace h1:=Lib.hid h1;go_enter Tryz.func175,Tryz.ntmps175;go_wp2_with fail;go_loopw [14,7,8] (fun iv v b wr => ∃ k:Nat,k≤l.length∧iv = .int .i64 k∧v = .int .i64 (untP l i n k).1∧b = .int .i64 (untP l i n k).2∧Gr w wr) (fun i _ _ _ => l.length - (intOf i).toNat);case atStart => exact ⟨0,Nat.zero_le _,rfl,rfl,rfl,Gr.refl _⟩
 case round =>
  obtain ⟨k,hk,rfl,rfl,rfl,hg⟩:=hrel;obtain ⟨sb1,sb2,bb1,bb2⟩:=untP_bd (i:=i) h1.out h3 k;by_cases hlt:k < l.length
  ·obtain ⟨s,hs⟩:=get_some l k hlt;obtain ⟨b,off,rfl,hb,c0,c1,c2,c3⟩:=(hl.gr hg) k s hs;obtain ⟨g1,g2,g3,g4,g5,g6⟩:=legT_mem h1.out hs;have p1:1≤s.p:=by omega
   obtain ⟨u1,u2,u3⟩:=up_mul_le hn1 (show 0≤s.c by omega) p1 (show s.c≤s.p by omega);have hk8:(k:Int)≤8:=by omega
   by_cases hd:(k:Int)≤i
   ·have hst:=untP_le (n:=n) hs hd;rw [up_floor p1] at u1 u2 u3 hst;obtain ⟨q3,q4,q5⟩:=quo_mul_le hn1 (show 0≤s.p by omega) p1 (Int.le_refl _);have q6:n / s.p≤n:=Int.ediv_le_self _ hn1;have hf:=fun w => floor_any n s.p w h3 p1 g4
    generalize n / s.p = x at *;replace hf:=Lib.hid hf;generalize untP l i n k = m at *;obtain ⟨m1,m2⟩:=m;dsimp only at sb1 sb2 bb1 bb2 hst ⊢;by_cases hx:x * s.p < n
    ·rw [if_pos hx] at u1 u2 u3 hst;replace hst:=Lib.hid hst;go_wp2_with fail;refine (hf.out _).mono ?_;rintro e wd ⟨rfl,rfl⟩;go_wp2_with fail;go_roundw;case rel => exact ⟨k + 1,by omega,by go_num,by rw [hst.out],by rw [hst.out],hg.alloc _⟩
     case measure => simp [intOf];omega
    ·rw [if_neg hx] at u1 u2 u3 hst;replace hst:=Lib.hid hst;go_wp2_with fail;refine (hf.out _).mono ?_;rintro e wd ⟨rfl,rfl⟩;go_wp2_with fail;go_roundw;case rel => exact ⟨k + 1,by omega,by go_num,by rw [hst.out],by rw [hst.out],hg.alloc _⟩
     case measure => simp [intOf];omega
   ·have hst:=untP_gt (n:=n) hs hd;generalize untP l i n k = m at *;obtain ⟨m1,m2⟩:=m;dsimp only at sb1 sb2 bb1 bb2 hst ⊢;by_cases hq:m2 < s.s - 1
    ·have hst2:untP l i n (k + 1) = (m1,s.s - 1):=by rw [hst];congr 1;omega
     clear hst;replace hst2:=Lib.hid hst2;go_wp2_with fail;go_roundw;case rel => exact ⟨k + 1,by omega,by go_num,by rw [hst2.out],by rw [hst2.out],hg.alloc _⟩
     case measure => simp [intOf];omega
    ·have hst2:untP l i n (k + 1) = (m1,m2):=by rw [hst];congr 1;omega
     clear hst;replace hst2:=Lib.hid hst2;go_wp2_with fail;go_roundw;case rel => exact ⟨k + 1,by omega,by go_num,by rw [hst2.out],by rw [hst2.out],hg.alloc _⟩
     case measure => simp [intOf];omega
  ·obtain rfl:k = l.length:=by omega
   go_wp2_with fail;go_ret;exact ⟨rfl,hg⟩
end Go.Proofs.YtdfelohjdkcpkaaGreatDoor
namespace Go.Proofs.YtdfelohjdkcpkaaGreatDoor
open Go.RowKit
def untI (l:List Tsk) (i n:Int):Int:=(untP l i n l.length).1 + (untP l i n l.length).2
def leastI (p:Int→Bool) (n:Nat):Int:=match (List.range n).find? (fun k:Nat => p ((k:Int) + 1)) with
 | some k => (k:Int) + 1
 | none => 0
theorem leastI_at {p:Int→Bool} {n k:Nat} (hk:k < n) (h:p ((k:Int) + 1) = true) (hb:∀ j,j < k→p ((j:Int) + 1) = false):leastI p n = (k:Int) + 1:=by
 have:(List.range n).find? (fun k:Nat => p ((k:Int) + 1)) = some k:=by
  rw [List.find?_range_eq_some];exact ⟨h,List.mem_range.2 hk,fun j hj => by rw [hb j hj];rfl⟩
 unfold leastI;rw [this]
theorem leastI_none {p:Int→Bool} {n:Nat} (hb:∀ j,j < n→p ((j:Int) + 1) = false):leastI p n = 0:=by
 have:(List.range n).find? (fun k:Nat => p ((k:Int) + 1)) = none:=by
  rw [List.find?_eq_none];intro k hk;rw [hb k (List.mem_range.1 hk)];decide
 unfold leastI;rw [this]
def respI (s:Srv) (l:List Tsk) (i:Int) (n:Nat):Int:=leastI (fun x => decide (untI l i x≤givI (rowI s) x)) n
set_option maxRecDepth 100000 in
set_option maxHeartbeats 3200000 in
theorem response_any (s:Srv) (a:Option Addr) (l:List Tsk) (c i:Nat) (t:Tsk) (w:World) (h:parOk s = true) (hl:TsksAt w a l) (hok:tasksOk l = true) (ht:l[i]? = some t) :
 Calls Tryz.prog 211 #[.agg #[.int .i64 s.k,.int .i64 s.q,.int .i64 s.t],.slice a l.length c,.int .i64 i] w fun e w' => e = .returned (.tuple #[.int .i64 (respI s l i t.d.toNat),.bool (decide (respI s l i t.d.toNat ≠ 0))])∧Gr w w':=by
 have hlt:=legT_mem hok ht;have hil:=get_lt ht;have h8:=(tasksOk_parts hok).2;obtain ⟨t1,t2,t3,t4,t5,t6⟩:=hlt;have hbo:=fun (x:Int) (w':World) (hx:LenOk x) => bound_yes s x w' h hx
 have hun:=fun (x:Int) (w':World) (g:Gr w w') (hx:LenOk x) => until_yes a l c i x w' (hl.gr g) hok hx (by omega) (by omega)
 obtain ⟨r,hr⟩:∃ r,r = respI s l i t.d.toNat:=⟨_,rfl⟩
 rw [← hr];replace hr:=Lib.hid hr;replace hbo:=Lib.hid hbo;replace hun:=Lib.hid hun;replace h:=Lib.hid h;replace hok:=Lib.hid hok;go_enter Tryz.func211,Tryz.ntmps211;go_wp2_with fail;go_loopw [8] (fun lv wr => ∃ k:Nat,(k:Int)≤t.d∧lv = .int .i64 ((k:Int) + 1)∧(∀ j,j < k→(fun x => decide (untI l i x≤givI (rowI s) x)) ((j:Int) + 1) = false)∧Gr (w.alloc (.cells #[.int .i64 s.k,.int .i64 s.q,.int .i64 s.t] 29)) wr) (fun lv _ => t.d.toNat + 1 - (intOf lv).toNat);case atStart => exact ⟨0,by omega,rfl,(fun j hj => by omega),Gr.refl _⟩
 case round =>
  obtain ⟨k,hk,rfl,hbf,hg⟩:=hrel;have gall:Gr w wr:=((Gr.refl w).alloc _).trans hg;obtain ⟨cg,fg,sg⟩:=hg.cells;simp only [World.size_alloc] at cg fg sg;have k1:=fun o => cg w.heap.size o (by omega)
  clear cg fg;obtain ⟨b,off,rfl,hb,d0,d1,d2,d3⟩:=(hl.gr gall) i t ht;replace hbf:=Lib.hid hbf;replace ht:=Lib.hid ht;by_cases hlt:(k:Int) < t.d
  ·have hlo:LenOk ((k:Int) + 1):=⟨by omega,by omega⟩
   have hu:=hun.out ((k:Int) + 1) wr gall hlo;have hbb:=hbo.out ((k:Int) + 1);obtain ⟨u,hu2⟩:∃ u,u = untI l i ((k:Int) + 1):=⟨_,rfl⟩
   rw [show (untP l i ((k:Int) + 1) l.length).1 + (untP l i ((k:Int) + 1) l.length).2 = untI l i ((k:Int) + 1) from rfl,← hu2] at hu;by_cases hfit:u≤givI (rowI s) ((k:Int) + 1)
   ·have hres:respI s l i t.d.toNat = (k:Int) + 1:=leastI_at (by omega) (decide_eq_true (by rw [← hu2];exact hfit)) (fun j hj => hbf.out j hj);replace hres:=Lib.hid hres;replace hu2:=Lib.hid hu2;replace hu:=Lib.hid hu;replace hbb:=Lib.hid hbb;replace hlo:=Lib.hid hlo;go_wp2_with fail;refine hu.out.mono ?_;rintro e w2 ⟨rfl,g2⟩;obtain ⟨c2,f2,s2⟩:=g2.cells;have k2:=fun o => c2 w.heap.size o (by omega)
    clear c2 f2;go_wp2_with fail;refine (hbb.out _ hlo.out).mono ?_;rintro e w3 ⟨rfl,g3⟩;go_wp2_with fail;go_ret2;exact ⟨by rw [hr.out,hres.out,decide_eq_true (by omega)];rfl,(gall.trans g2).trans g3⟩
   ·have hfit2:givI (rowI s) ((k:Int) + 1) < u:=by omega
    have hnext:∀ j,j < k + 1→(fun x => decide (untI l i x≤givI (rowI s) x)) ((j:Int) + 1) = false:=fun j hj => by
     by_cases hjk:j = k
     ·rw [hjk];exact decide_eq_false (by rw [← hu2];exact hfit)
     ·exact hbf.out j (by omega)
    replace hnext:=Lib.hid hnext;replace hu2:=Lib.hid hu2;replace hu:=Lib.hid hu;replace hbb:=Lib.hid hbb;replace hlo:=Lib.hid hlo;clear hfit;go_wp2_with fail;refine hu.out.mono ?_;rintro e w2 ⟨rfl,g2⟩;obtain ⟨c2,f2,s2⟩:=g2.cells;have k2:=fun o => c2 w.heap.size o (by omega)
    clear c2 f2;go_wp2_with fail;refine (hbb.out _ hlo.out).mono ?_;rintro e w3 ⟨rfl,g3⟩;go_wp2_with fail;go_roundw;case rel => exact ⟨k + 1,by omega,by go_num,hnext.out,(hg.trans g2).trans g3⟩
    case measure => simp [intOf];omega
  ·have hres:respI s l i t.d.toNat = 0:=leastI_none (fun j hj => hbf.out j (by omega));replace hres:=Lib.hid hres;go_wp2_with fail;go_ret2;exact ⟨by rw [hr.out,hres.out];rfl,gall⟩
abbrev wh:Srv:=⟨0,0,0⟩
end Go.Proofs.YtdfelohjdkcpkaaGreatDoor
namespace Go.Proofs.YtdfelohjdkcpkaaGreatDoor
open Go.RowKit
theorem cmpI_neg {x y:Int} (h:x < y):cmpI x y < 0:=by unfold cmpI;rw [if_pos h];decide
theorem cmpI_le {x y:Int} (h:x≤y):cmpI x y≤0:=by
 unfold cmpI;by_cases h1:x < y
 ·rw [if_pos h1];decide
 ·rw [if_neg h1,if_neg (by omega)];decide
theorem whole_row {s:Srv} (h:whole s = true):rowI s = ⟨0,1,1⟩:=by unfold rowI;rw [if_pos h]
theorem whole_iff {s:Srv}:whole s = true ↔ s.k = 0∧s.q = 0∧s.t = 0:=by unfold whole;exact decide_eq_true_iff
theorem par_leg {s:Srv} (h:parOk s = true) (hw:whole s = false):Leg s:=by
 unfold parOk at h;rw [hw,Bool.false_or] at h;exact (Srv.leg_iff s).1 h
theorem leg_row {s:Srv} (hw:whole s = false):(rowI s).q = s.q∧(rowI s).t = s.t∧((rowI s).gap = s.t - s.q ∨ (rowI s).gap = s.t - 1):=by
 unfold rowI;rw [if_neg (by rw [hw];decide)];split
 ·exact ⟨rfl,rfl,.inl rfl⟩
 ·exact ⟨rfl,rfl,.inr rfl⟩
theorem wiC_whole {s:Srv} (p:Int × Int) (h:parOk s = true) (hw:whole s = true):wiC none p s = cmpI p.1 p.2:=by
 unfold wiC;rw [if_pos (by rw [wiB_par];exact h),if_pos (whole_iff.1 hw)]
theorem wiC_leg {s:Srv} (p:Int × Int) (h:parOk s = true) (hw:whole s = false):wiC none p s = cmpI (p.1 * s.t) (p.2 * s.q):=by
 unfold wiC;rw [if_pos (by rw [wiB_par];exact h),if_neg (fun hh => by rw [whole_iff.2 hh] at hw;cases hw)]
theorem kids_of {s:Srv} {l:List Srv} (h:parOk s = true) (hs:srvErr l = none) (h1:lineB s (shareS l) (2 * sumQ l) = true) (h2:belowB s (stepsL l 4096) (demI l) = true):kidsErr s l = none:=by
 unfold kidsErr kidsB;rw [if_neg (by rw [h];decide),hs,h1,h2];rfl
theorem kids_nil {s:Srv} (h:parOk s = true):kidsErr s [] = none:=by
 have hr:=rowI_ok h;have q1:=hr.q1;have g0:=hr.g0;have g1:=hr.g1;have t2:=hr.t2;have qt:=hr.qt;refine kids_of h (by decide) ?_ ?_
 ·unfold lineB;rw [show shareS [] = (0,1) from rfl,show sumQ [] = 0 from rfl];have h1:wiC none ((0,1):Int × Int) s < 0:=by
   cases hw:whole s with
   | true => rw [wiC_whole _ h hw];exact cmpI_neg (by decide)
   | false =>
    rw [wiC_leg _ h hw];have:=(par_leg h hw).2.2.1;exact cmpI_neg (by dsimp only;omega)
  rw [decide_eq_true h1,decide_eq_true (cmpI_le _)]
  ·rfl
  ·have:=Int.mul_nonneg (show 0≤(rowI s).q by omega) (show 0≤4096 - silI (rowI s) by unfold silI;omega);dsimp only;omega
 ·have h0:∀ n,stepsL [] n = []:=by
   intro n;induction n with
   | zero => rfl
   | succ n ih => rw [stepsL,ih];rfl
  unfold belowB;rw [h0];rfl
end Go.Proofs.YtdfelohjdkcpkaaGreatDoor
namespace Go.Proofs.YtdfelohjdkcpkaaGreatDoor
end Go.Proofs.YtdfelohjdkcpkaaGreatDoor
namespace Go.Proofs.YtdfelohjdkcpkaaGreatDoor
open Go.RowKit
theorem rlegal10_any (s:Srv) (w:World) :
 Calls Tryz.prog 103 #[.agg #[.int .i64 s.k,.int .i64 s.q,.int .i64 s.t]] w fun e w' => e = .returned (.bool (parOk s))∧Gr w w':=by
 have hs:=fun w => srv_eql s ⟨0,0,0⟩ w
 dsimp only at hs;rw [show decide (s.k = 0∧s.q = 0∧s.t = 0) = whole s from rfl] at hs;have hl:=rlegal_any s;unfold parOk;cases hw:whole s with
 | true =>
  rw [hw] at hs;replace hw:=Lib.hid hw;replace hl:=Lib.hid hl;go_enter Tryz.func103,Tryz.ntmps103;go_wp2_with fail;go_ret;exact ⟨rfl,(by repeat (first | exact Gr.refl _ | apply Gr.alloc | apply Gr.drew | apply Gr.drewN | (refine Gr.setCell ?_ (by first | (simp;done) | (simp;omega)) _) | (refine Gr.trans ?_ (by assumption))))⟩
 | false =>
  rw [hw] at hs;rw [Bool.false_or];replace hw:=Lib.hid hw;replace hl:=Lib.hid hl;go_enter Tryz.func103,Tryz.ntmps103;go_wp2_with fail;refine (hl.out _).mono ?_;rintro e wa ⟨rfl,ga⟩;obtain ⟨ca,fa,sa⟩:=ga.cells;try simp only [size_drewN] at ca fa sa
  try simp only [World.size_alloc] at ca fa sa
  try simp only [World.size_drew] at ca fa sa
  try simp only [World.size_setCell] at ca fa sa
  have za0:w.heap.size < wa.heap.size:=by omega
  have ya0:w.heap.size≤wa.heap.size:=by omega
  have ka0:=fun o => ca (w.heap.size) o (by omega)
  have ja0:=fun o => fa (w.heap.size) o (by omega)
  go_wp2_with fail;go_ret;exact ⟨rfl,(by repeat (first | exact Gr.refl _ | apply Gr.alloc | apply Gr.drew | apply Gr.drewN | (refine Gr.setCell ?_ (by first | (simp;done) | (simp;omega)) _) | (refine Gr.trans ?_ (by assumption))))⟩
end Go.Proofs.YtdfelohjdkcpkaaGreatDoor
namespace Go.Proofs.YtdfelohjdkcpkaaGreatDoor
open Go.RowKit
def respAt (s:Srv) (l:List Tsk) (i:Nat):Int:=match l[i]? with
 | some t => respI s l i t.d.toNat
 | none => 0
def fitsO (s:Srv) (l:List Tsk):Bool:=(List.range l.length).all fun i => decide (respAt s l i ≠ 0)
theorem respAt_eq {s:Srv} {l:List Tsk} {i:Nat} {t:Tsk} (h:l[i]? = some t):respAt s l i = respI s l i t.d.toNat:=by unfold respAt;rw [h]
set_option maxRecDepth 100000 in
set_option maxHeartbeats 1600000 in
theorem guest_par {G:List Nat} {E:Nat→Addr} (s:Srv) (p:Int) (a:Option Addr) (l:List Tsk) (c:Nat) (w:World) (hE:EAt G E w) (i0:9 ∈ G) (h:parOk s = false) :
 Calls Tryz.prog 170 #[.agg #[.int .i64 s.k,.int .i64 s.q,.int .i64 s.t],.int .i64 p,.slice a l.length c] w fun e w' => e = .returned (Value.iface 384 (.pointer (some (E 9))))∧Gr w w':=by
 have hsi:=fun w hE => silence_no (G:=G) (E:=E) s w hE i0 h
 replace hsi:=Lib.hid hsi;replace h:=Lib.hid h;go_enter Tryz.func170,Tryz.ntmps170;go_wp2_with fail;refine (hsi.out _ (hE.gr (((Gr.refl w).alloc _).alloc _))).mono ?_;rintro e w1 ⟨rfl,g1⟩;obtain ⟨c1,f1,s1⟩:=g1.cells;try simp only [size_drewN] at c1 f1 s1
 try simp only [World.size_alloc] at c1 f1 s1
 try simp only [World.size_drew] at c1 f1 s1
 try simp only [World.size_setCell] at c1 f1 s1
 have z10:w.heap.size < w1.heap.size:=by omega
 have y10:w.heap.size≤w1.heap.size:=by omega
 have k10:=fun o => c1 (w.heap.size) o (by omega)
 have j10:=fun o => f1 (w.heap.size) o (by omega)
 have z11:w.heap.size + 1 < w1.heap.size:=by omega
 have k11:=fun o => c1 (w.heap.size + 1) o (by omega)
 have j11:=fun o => f1 (w.heap.size + 1) o (by omega)
 go_wp2_with fail;go_ret;exact ⟨rfl,(((Gr.refl w).alloc _).alloc _).trans g1⟩
set_option maxRecDepth 100000 in
set_option maxHeartbeats 1600000 in
theorem guest_bad {G:List Nat} {E:Nat→Addr} (s:Srv) (p:Int) (a:Option Addr) (l:List Tsk) (c:Nat) (w:World) (hE:EAt G E w) (i4:10 ∈ G) (h:parOk s = true) (hl:TsksAt w a l) (hm:l.length≤maxLen) (hg:guestOk p l = false) :
 Calls Tryz.prog 170 #[.agg #[.int .i64 s.k,.int .i64 s.q,.int .i64 s.t],.int .i64 p,.slice a l.length c] w fun e w' => e = .returned (Value.iface 384 (.pointer (some (E 10))))∧Gr w w':=by
 have hsi:=fun w => silence_yes s w h
 have hcg:=fun w' (g:Gr w w') => checkGuest_no p a l c w' (hE.gr g) i4 (hl.gr g) hm hg
 replace hsi:=Lib.hid hsi;replace hcg:=Lib.hid hcg;replace h:=Lib.hid h;replace hg:=Lib.hid hg;go_enter Tryz.func170,Tryz.ntmps170;go_wp2_with fail;refine (hsi.out _).mono ?_;rintro e w1 ⟨rfl,g1⟩;obtain ⟨c1,f1,s1⟩:=g1.cells;try simp only [size_drewN] at c1 f1 s1
 try simp only [World.size_alloc] at c1 f1 s1
 try simp only [World.size_drew] at c1 f1 s1
 try simp only [World.size_setCell] at c1 f1 s1
 have z10:w.heap.size < w1.heap.size:=by omega
 have y10:w.heap.size≤w1.heap.size:=by omega
 have k10:=fun o => c1 (w.heap.size) o (by omega)
 have j10:=fun o => f1 (w.heap.size) o (by omega)
 have z11:w.heap.size + 1 < w1.heap.size:=by omega
 have k11:=fun o => c1 (w.heap.size + 1) o (by omega)
 have j11:=fun o => f1 (w.heap.size + 1) o (by omega)
 have gA:Gr w w1:=(((Gr.refl w).alloc _).alloc _).trans g1;go_wp2_with fail;go_wp2_with fail;refine (hcg.out _ gA).mono ?_;rintro e w2 ⟨rfl,g2⟩;obtain ⟨c2,f2,s2⟩:=g2.cells;try simp only [size_drewN] at c2 f2 s2
 try simp only [World.size_alloc] at c2 f2 s2
 try simp only [World.size_drew] at c2 f2 s2
 try simp only [World.size_setCell] at c2 f2 s2
 have z20:w.heap.size < w2.heap.size:=by omega
 have y20:w.heap.size≤w2.heap.size:=by omega
 have k20:=fun o => c2 (w.heap.size) o (by omega)
 have j20:=fun o => f2 (w.heap.size) o (by omega)
 have z21:w.heap.size + 1 < w2.heap.size:=by omega
 have k21:=fun o => c2 (w.heap.size + 1) o (by omega)
 have j21:=fun o => f2 (w.heap.size + 1) o (by omega)
 go_wp2_with fail;go_ret;exact ⟨rfl,gA.trans g2⟩
set_option maxRecDepth 100000 in
set_option maxHeartbeats 3200000 in
theorem guestO_any {G:List Nat} {E:Nat→Addr} (s:Srv) (a:Option Addr) (l:List Tsk) (c:Nat) (w:World) (hE:EAt G E w) (i1:11 ∈ G) (h:parOk s = true) (hl:TsksAt w a l) (hg:guestOk 2 l = true) :
 Calls Tryz.prog 170 #[.agg #[.int .i64 s.k,.int .i64 s.q,.int .i64 s.t],.int .i64 2,.slice a l.length c] w fun e w' => e = .returned (if fitsO s l = true then .nilIface else (Value.iface 384 (.pointer (some (E 11)))))∧Gr w w':=by
 have hsi:=fun w => silence_yes s w h
 have hcg:=fun w' (g:Gr w w') => checkGuest_yes 2 a l c w' (hl.gr g) hg
 obtain ⟨_,_,hok⟩:=(guestOk_iff 2 l).1 hg;have hre:=fun i t (ht:l[i]? = some t) w' (g:Gr w w') => response_any s a l c i t w' h (hl.gr g) hok ht
 have h8:=(tasksOk_parts hok).2;obtain ⟨v,hv⟩:∃ v,v = fitsO s l:=⟨_,rfl⟩
 rw [← hv];replace hv:=Lib.hid hv;obtain ⟨F,hF⟩:∃ F:Value,F = if v = true then .nilIface else (Value.iface 384 (.pointer (some (E 11)))):=⟨_,rfl⟩
 rw [← hF];replace hF:=Lib.hid hF;replace hsi:=Lib.hid hsi;replace hcg:=Lib.hid hcg;replace hre:=Lib.hid hre;replace h:=Lib.hid h;replace hg:=Lib.hid hg;replace hok:=Lib.hid hok;go_enter Tryz.func170,Tryz.ntmps170;go_wp2_with fail;refine (hsi.out _).mono ?_;rintro e w1 ⟨rfl,g1⟩;obtain ⟨c1,f1,s1⟩:=g1.cells;try simp only [size_drewN] at c1 f1 s1
 try simp only [World.size_alloc] at c1 f1 s1
 try simp only [World.size_drew] at c1 f1 s1
 try simp only [World.size_setCell] at c1 f1 s1
 have z10:w.heap.size < w1.heap.size:=by omega
 have y10:w.heap.size≤w1.heap.size:=by omega
 have k10:=fun o => c1 (w.heap.size) o (by omega)
 have j10:=fun o => f1 (w.heap.size) o (by omega)
 have z11:w.heap.size + 1 < w1.heap.size:=by omega
 have k11:=fun o => c1 (w.heap.size + 1) o (by omega)
 have j11:=fun o => f1 (w.heap.size + 1) o (by omega)
 have gA:Gr w w1:=(((Gr.refl w).alloc _).alloc _).trans g1;go_wp2_with fail;go_wp2_with fail;refine (hcg.out _ gA).mono ?_;rintro e w2 ⟨rfl,g2⟩;obtain ⟨c2,f2,s2⟩:=g2.cells;try simp only [size_drewN] at c2 f2 s2
 try simp only [World.size_alloc] at c2 f2 s2
 try simp only [World.size_drew] at c2 f2 s2
 try simp only [World.size_setCell] at c2 f2 s2
 have z20:w.heap.size < w2.heap.size:=by omega
 have y20:w.heap.size≤w2.heap.size:=by omega
 have k20:=fun o => c2 (w.heap.size) o (by omega)
 have j20:=fun o => f2 (w.heap.size) o (by omega)
 have z21:w.heap.size + 1 < w2.heap.size:=by omega
 have k21:=fun o => c2 (w.heap.size + 1) o (by omega)
 have j21:=fun o => f2 (w.heap.size + 1) o (by omega)
 have gB:=gA.trans g2;go_wp2_with fail;go_loopw [38] (fun iv wr => ∃ k:Nat,k≤l.length∧iv = .int .i64 k∧(∀ j,j < k→respAt s l j ≠ 0)∧Gr w2 wr) (fun iv _ => l.length - (intOf iv).toNat);case atStart => exact ⟨0,Nat.zero_le _,rfl,(fun j hj => by omega),Gr.refl _⟩
 case round =>
  obtain ⟨k,hk,rfl,hbf,hgg⟩:=hrel;have gall:=gB.trans hgg;obtain ⟨cg,fg,sg⟩:=hgg.cells;have k1:=fun o => cg w.heap.size o (by omega)
  have k2':=fun o => cg (w.heap.size + 1) o (by omega)
  clear cg fg;replace hbf:=Lib.hid hbf;by_cases hlt:k < l.length
  ·obtain ⟨t,ht⟩:=get_some l k hlt;have hr:=hre.out k t ht wr gall;have hra:=respAt_eq (s:=s) ht;obtain ⟨r,hrr⟩:∃ r,r = respI s l k t.d.toNat:=⟨_,rfl⟩
   rw [← hrr] at hr hra;by_cases h0:r = 0
   ·have hvf:v = false:=by
     rw [hv.out];unfold fitsO;cases hh:(List.range l.length).all fun i => decide (respAt s l i ≠ 0) with
     | false => rfl
     | true =>
      have:=of_decide_eq_true (List.all_eq_true.1 hh k (List.mem_range.2 hlt));rw [hra,h0] at this;exact absurd rfl this
    rw [h0,show decide ((0:Int) ≠ 0) = false from rfl] at hr;replace hr:=Lib.hid hr;replace hra:=Lib.hid hra;replace ht:=Lib.hid ht;replace hrr:=Lib.hid hrr;replace h0:=Lib.hid h0;replace hvf:=Lib.hid hvf;go_wp2_with fail;refine hr.out.mono ?_;rintro e w3 ⟨rfl,g3⟩;have he:=(hE.gr (gall.trans g3)).c0 i1;go_wp2_with fail;go_ret;exact ⟨by rw [hF.out,hvf.out];rfl,gall.trans g3⟩
   ·rw [decide_eq_true h0] at hr;have hnext:∀ j,j < k + 1→respAt s l j ≠ 0:=fun j hj => by
     by_cases hjk:j = k
     ·rw [hjk,hra];exact h0
     ·exact hbf.out j (by omega)
    replace hnext:=Lib.hid hnext;replace hr:=Lib.hid hr;replace hra:=Lib.hid hra;replace ht:=Lib.hid ht;replace hrr:=Lib.hid hrr;replace h0:=Lib.hid h0;go_wp2_with fail;refine hr.out.mono ?_;rintro e w3 ⟨rfl,g3⟩;go_wp2_with fail;go_roundw;case rel => exact ⟨k + 1,by omega,by go_num,hnext.out,hgg.trans g3⟩
    case measure => simp [intOf];omega
  ·have hvt:v = true:=by
    rw [hv.out];unfold fitsO;rw [List.all_eq_true];intro i hi;exact decide_eq_true (hbf.out i (by have:=List.mem_range.1 hi;omega))
   replace hvt:=Lib.hid hvt;go_wp2_with fail;go_ret;exact ⟨by rw [hF.out,hvt.out];rfl,gall⟩
end Go.Proofs.YtdfelohjdkcpkaaGreatDoor
namespace Go.Proofs.YtdfelohjdkcpkaaGreatDoor
open Go.RowKit
theorem sumI_append {α:Type} (f:α→Int) (a b:List α):sumI f (a ++ b) = sumI f a + sumI f b:=by
 induction a with
 | nil => simp [sumI]
 | cons x r ih => rw [List.cons_append,sumI_cons,sumI_cons,ih];omega
theorem sumI_fewer {α:Type} (f:α→Int) (a b:List α) (x:α):sumI f (a ++ x :: b) = sumI f (a ++ b) + f x:=by rw [sumI_append,sumI_append,sumI_cons];omega
theorem shareS_perm {l m:List Srv} (h:l.Perm m):shareS l = shareS m:=by
 have key:∀ (l m:List Srv),l.Perm m→∀ p,l.foldl (fun p s => plusP p s.q s.t) p = m.foldl (fun p s => plusP p s.q s.t) p:=by
  intro l m h;induction h with
  | nil => intro p;rfl
  | cons x _ ih => intro p;exact ih _
  | swap x y l =>
   intro p;rw [List.foldl_cons,List.foldl_cons,List.foldl_cons,List.foldl_cons];congr 1;simp only [plusP];refine Prod.ext ?_ ?_
   ·simp only [Int.add_mul,Int.mul_assoc];rw [Int.mul_comm y.t x.t,Int.mul_comm y.q x.t,Int.mul_comm y.t x.q];omega
   ·simp only [Int.mul_assoc];rw [Int.mul_comm y.t]
  | trans _ _ ih1 ih2 => intro p;rw [ih1,ih2]
 exact key l m h _
theorem share_fewer (a b:List Srv) (x:Srv):shareS (a ++ x :: b) = plusP (shareS (a ++ b)) x.q x.t:=by
 rw [← shareS_snoc];refine shareS_perm ?_;have h1:(a ++ x :: b).Perm (x :: (a ++ b)):=List.perm_middle;have h2:(x :: (a ++ b)).Perm ((a ++ b) ++ [x]):=(List.perm_append_singleton x (a ++ b)).symm;exact h1.trans h2
theorem cmpI_neg_iff {x y:Int}:cmpI x y < 0 ↔ x < y:=by
 constructor
 ·intro h;unfold cmpI at h;by_cases h1:x < y
  ·exact h1
  ·rw [if_neg h1] at h;split at h <;> omega
 ·exact cmpI_neg
theorem cmpI_le_iff {x y:Int}:cmpI x y≤0 ↔ x≤y:=by
 constructor
 ·intro h;unfold cmpI at h;by_cases h1:x < y
  ·omega
  ·rw [if_neg h1] at h;split at h <;> omega
 ·exact cmpI_le
theorem lt_fewer {n d q t A B:Int} (hd:0≤d) (hq:0≤q) (ht:1≤t) (hA:0≤A) (h:(n * t + d * q) * A < (d * t) * B):n * A < d * B:=by
 have h1:0≤d * q * A:=Int.mul_nonneg (Int.mul_nonneg hd hq) hA;have e1:(n * t + d * q) * A = t * (n * A) + d * q * A:=by rw [Int.add_mul,Int.mul_comm n t,Int.mul_assoc]
 have e2:d * t * B = t * (d * B):=by rw [Int.mul_comm d t,Int.mul_assoc]
 rw [e1,e2] at h;exact Int.lt_of_mul_lt_mul_left (a:=t) (by omega) (by omega)
theorem le_fewer {n d q t A B m m':Int} (hd:0≤d) (hq:0≤q) (ht:1≤t) (hA:0≤A) (hm:m'≤m) (h:((n * t + d * q) * 4096 + (d * t) * m) * A≤(d * t) * B):(n * 4096 + d * m') * A≤d * B:=by
 have h0:0≤d * t:=Int.mul_nonneg hd (by omega);have h1:0≤d * q:=Int.mul_nonneg hd hq;have h2:d * t * m'≤d * t * m:=Int.mul_le_mul_of_nonneg_left hm h0;have h3:(n * t * 4096 + d * t * m') * A≤((n * t + d * q) * 4096 + d * t * m) * A:=Int.mul_le_mul_of_nonneg_right (by rw [Int.add_mul];omega) hA;have e1:(n * t * 4096 + d * t * m') * A = t * ((n * 4096 + d * m') * A):=by
  rw [← Int.mul_assoc,Int.mul_add,Int.mul_comm n t,Int.mul_comm d t,Int.mul_assoc t n,Int.mul_assoc t d]
 have e2:d * t * B = t * (d * B):=by rw [Int.mul_comm d t,Int.mul_assoc]
 rw [e1] at h3;rw [e2] at h;exact Int.le_of_mul_le_mul_left (a:=t) (by omega) (by omega)
theorem below_all {s:Srv} {l:List Srv} (hp:parOk s = true) (hal:allLeg l = true) (hb:belowB s (stepsL l 4096) (demI l) = true):∀ n:Nat,n≤4096→demI l n≤givI (rowI s) n:=by
 intro n;induction n with
 | zero =>
  intro _;have:=demI_zero l hal;have:=giv_nonneg (rowI_ok hp) ((0:Nat):Int);simp only [Int.natCast_zero] at *;omega
 | succ n ih =>
  intro _;have h1:=ih (by omega);by_cases hg:demI l n < demI l ((n:Int) + 1)
  ·have hm:=get_mem (stepsL_at (n:=4096) (by omega) hg);unfold belowB at hb;have:=of_decide_eq_true (List.all_eq_true.1 hb _ hm)
   exact_mod_cast this
  ·have h2:=giv_mono (rowI_ok hp) (show (n:Int)≤(n:Int) + 1 by omega);have h3:demI l ((n:Int) + 1)≤givI (rowI s) ((n:Int) + 1):=by omega
   exact_mod_cast h3
theorem kids_parts {s:Srv} {l:List Srv} (h:kidsErr s l = none):parOk s = true∧srvErr l = none∧lineB s (shareS l) (2 * sumQ l) = true∧belowB s (stepsL l 4096) (demI l) = true:=by
 unfold kidsErr at h;cases hp:parOk s with
 | false => rw [if_pos hp] at h;cases h
 | true =>
  rw [if_neg (by rw [hp];decide)] at h;cases hs:srvErr l with
  | some g => rw [hs] at h;cases h
  | none =>
   rw [hs] at h;dsimp only at h;cases hk:kidsB s l with
   | false => rw [hk,if_neg (by decide)] at h;cases h
   | true =>
    unfold kidsB at hk;rw [Bool.and_eq_true] at hk;exact ⟨rfl,rfl,hk.1,hk.2⟩
theorem srv_fewer {a b:List Srv} {x:Srv} (h:srvErr (a ++ x :: b) = none):srvErr (a ++ b) = none∧x.leg = true∧allLeg (a ++ b) = true∧allLeg (a ++ x :: b) = true:=by
 obtain ⟨h1,h2⟩:=srvErr_none h;have h3:allLeg (a ++ b) = true∧x.leg = true:=by
  unfold allLeg at h1 ⊢;rw [List.all_append,List.all_cons] at h1;rw [List.all_append];simp only [Bool.and_eq_true] at h1 ⊢;exact ⟨⟨h1.1,h1.2.2⟩,h1.2.1⟩
 refine ⟨?_,h3.2,h3.1,h1⟩;have h4:(a ++ b).length≤8:=by rw [List.length_append] at h2 ⊢;rw [List.length_cons] at h2;omega
 unfold srvErr;rw [if_neg (by rw [h3.1];decide),if_neg (by omega)]
theorem kids_fewer {s:Srv} {a b:List Srv} {x:Srv} (h:kidsErr s (a ++ x :: b) = none):kidsErr s (a ++ b) = none:=by
 obtain ⟨hp,hs,hl,hb⟩:=kids_parts h;obtain ⟨hs',hx,hal',hal⟩:=srv_fewer hs;obtain ⟨x1,x2,x3,x4,x5⟩:=(Srv.leg_iff x).1 hx;have hsh:=srvErr_shr hs';obtain ⟨p1,p2,p3,p4⟩:=hsh;have hr:=rowI_ok hp;have t1:0≤(rowI s).t:=by have:=hr.q1;have:=hr.qt;omega
 refine kids_of hp hs' ?_ ?_
 ·unfold lineB at hl ⊢;rw [share_fewer,show sumQ (a ++ x :: b) = sumQ (a ++ b) + x.q from sumI_fewer _ a b x] at hl;rw [Bool.and_eq_true,decide_eq_true_iff,decide_eq_true_iff] at hl ⊢;obtain ⟨l1,l2⟩:=hl;refine ⟨?_,?_⟩
  ·cases hw:whole s with
   | true =>
    rw [wiC_whole _ hp hw] at l1 ⊢;rw [cmpI_neg_iff] at l1 ⊢;have:=lt_fewer (A:=1) (B:=1) (n:=(shareS (a ++ b)).1) (d:=(shareS (a ++ b)).2) (q:=x.q) (t:=x.t) (by omega) (by omega) (by omega) (by decide) (by simpa [plusP] using l1);simpa using this
   | false =>
    rw [wiC_leg _ hp hw] at l1 ⊢;rw [cmpI_neg_iff] at l1 ⊢;obtain ⟨_,_,y3,y4,_⟩:=par_leg hp hw;exact lt_fewer (q:=x.q) (t:=x.t) (by omega) (by omega) (by omega) (by omega) l1
  ·rw [cmpI_le_iff] at l2 ⊢;exact le_fewer (q:=x.q) (t:=x.t) (by omega) (by omega) (by omega) t1 (by omega) l2
 ·unfold belowB;rw [List.all_eq_true];intro y hy;have hy1:=stepsL_ok _ _ y hy;refine decide_eq_true ?_;have h1:=below_all hp hal hb y.toNat (by omega);rw [show ((y.toNat:Nat):Int) = y by omega] at h1;have h2:demI (a ++ x :: b) y = demI (a ++ b) y + askedI x y:=sumI_fewer _ a b x;have h3:=asked_bd (s:=x) (l:=y) ⟨x1,x2,x3,x4,x5⟩ ⟨by omega,by omega⟩;omega
end Go.Proofs.YtdfelohjdkcpkaaGreatDoor
