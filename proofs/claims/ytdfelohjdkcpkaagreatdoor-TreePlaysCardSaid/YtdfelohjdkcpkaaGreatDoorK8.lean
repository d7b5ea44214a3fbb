/- AdmitBeyond: servers that fit fit at every length. AdmitBeyond: a guest that fits under PolicyDeadline fits at every length. -/
import Derived.Test.YtdfelohjdkcpkaaGreatDoorK7
import Derived.Test.YtdfelohjdkcpkaaGreatDoorK5
import Derived.Test.YtdfelohjdkcpkaaGreatDoorK4
import Derived.Shelf.Sort.Plain
import Derived.Shelf.Bits.Mul64
import Derived.Ground.Names2Prog
import Derived.Shelf.Slices.CompactI
import Derived.Shelf.Slices.In.SortNone
import Derived.Test.YtdfelohjdkcpkaaGreatDoorProg
import Derived.Lib.OwnBridge
namespace Go.Proofs.YtdfelohjdkcpkaaGreatDoor
open Go.RowKit
theorem shr_shareT {l:List Tsk} (h:tasksOk l = true):Shr (shareT l):=by
 obtain ⟨h1,h8⟩:=tasksOk_parts h;have hal:allLegT l = true:=by
  unfold allLegT;rw [List.all_eq_true];intro x hx;exact (Tsk.leg_iff x).2 (h1 x hx)
 have hb:=shareT_bd l hal l.length (Nat.le_refl _);rw [List.take_length] at hb;obtain ⟨b1,b2,b3,b4⟩:=hb;have hp:=P256_le h8;have h0:=P256_pos l.length;have:(l.length:Int) * P256 l.length≤8 * 18446744073709551616:=Int.mul_le_mul (by omega) hp (by omega) (by omega);exact ⟨b1,by omega,b3,by omega⟩
def sumC (l:List Tsk):Int:=sumI (fun t => t.c) l
def maxS (l:List Tsk):Int:=l.foldl (fun b t => max b t.s) 0
theorem maxS_snoc (l:List Tsk) (t:Tsk):maxS (l ++ [t]) = max (maxS l) t.s:=by unfold maxS;rw [List.foldl_append];rfl
theorem sumC_bd {l:List Tsk} (h:tasksOk l = true) (k:Nat):0≤sumC (l.take k)∧sumC (l.take k)≤2048:=by
 obtain ⟨h1,h8⟩:=tasksOk_parts h;have:=sumI_bd (fun t:Tsk => t.c) (l.take k) 256 (fun x hx => by
  obtain ⟨a1,a2,a3,a4,a5,a6⟩:=h1 x (List.mem_of_mem_take hx);omega)
 have h2:(l.take k).length≤8:=by rw [List.length_take];omega
 unfold sumC;omega
theorem maxS_bd {l:List Tsk} (h:tasksOk l = true) (k:Nat):0≤maxS (l.take k)∧maxS (l.take k)≤256:=by
 induction k with
 | zero => rw [List.take_zero];exact ⟨Int.le_refl _,by simp [maxS]⟩
 | succ k ih =>
  cases ht:l[k]? with
  | none => rw [List.take_add_one,ht];simpa using ih
  | some t =>
   obtain ⟨h1,h2,h3,h4,h5,h6⟩:=legT_mem h ht;rw [take_snoc ht,maxS_snoc];omega
def deadB (l:List Tsk) (n:Int):Bool:=l.any fun t => decide (t.d≤n∧(n - t.d) % t.p = 0)
theorem div_stay {m p:Int} (hp:1≤p) (h:(m + 1) % p ≠ 0):(m + 1) / p = m / p:=by
 have e1:=Int.mul_ediv_add_emod m p;have e2:=Int.emod_nonneg m (show p ≠ 0 by omega);have e3:=Int.emod_lt_of_pos m (show 0 < p by omega);have f1:=Int.mul_ediv_add_emod (m + 1) p;have f2:=Int.emod_nonneg (m + 1) (show p ≠ 0 by omega);have f3:=Int.emod_lt_of_pos (m + 1) (show 0 < p by omega);generalize (m + 1) / p = x at *;generalize m / p = y at *;have h1:p * x < p * (y + 1):=by rw [Int.mul_add,Int.mul_one];omega
 have h2:p * y < p * (x + 1):=by rw [Int.mul_add,Int.mul_one];omega
 have h3:=Int.lt_of_mul_lt_mul_left h1 (by omega);have h4:=Int.lt_of_mul_lt_mul_left h2 (by omega);omega
theorem task_stay {t:Tsk} (ht:LegT t) {n:Int} (h:¬ (t.d≤n + 1∧(n + 1 - t.d) % t.p = 0)):taskI t (n + 1) = taskI t n:=by
 obtain ⟨h1,h2,h3,h4,h5,h6⟩:=ht;unfold taskI;by_cases hn:n + 1 < t.d
 ·rw [if_pos hn,if_pos (by omega)]
 ·rw [if_neg hn];have hm:¬ (n + 1 - t.d) % t.p = 0:=fun e => h ⟨by omega,e⟩
  have hne:n + 1 ≠ t.d:=fun e => hm (by rw [e];simp)
  rw [if_neg (by omega)];have e:n + 1 - t.d = (n - t.d) + 1:=by omega
  rw [e] at hm ⊢;rw [div_stay (by omega) hm]
theorem tsum_stay {n:Int}:∀ (l:List Tsk),(∀ t ∈ l,LegT t)→deadB l (n + 1) = false→tsumI l (n + 1) = tsumI l n:=by
 intro l;induction l with
 | nil => intro _ _;rfl
 | cons t l ih =>
  intro hl hd;unfold deadB at hd;rw [List.any_cons,Bool.or_eq_false_iff] at hd;obtain ⟨d1,d2⟩:=hd;have h1:=ih (fun x hx => hl x (List.mem_cons_of_mem _ hx)) d2;have h2:=task_stay (hl t (List.mem_cons_self ..)) (of_decide_eq_false d1);have key:∀ m,tsumI (t :: l) m = taskI t m + tsumI l m:=fun m => by unfold tsumI;rw [sumI_cons]
  rw [key,key,h1,h2]
theorem blk_falls {n:Int}:∀ (k:Nat) (l:List Tsk),l.length = k→blkI l (n + 1)≤blkI l n:=by
 intro k;induction k with
 | zero => intro l hl;obtain rfl:=List.length_eq_zero_iff.1 hl;exact Int.le_refl _
 | succ k ih =>
  intro l hl;obtain ⟨m,x,rfl⟩:∃ m x,l = m ++ [x]:=by
   have hne:l ≠ []:=fun e => by rw [e] at hl;cases hl
   exact ⟨l.dropLast,l.getLast hne,(List.dropLast_concat_getLast hne).symm⟩
  have h1:=ih m (by simpa using hl);rw [blkI_snoc,blkI_snoc];split <;> split <;> omega
theorem tasks_near {s:Srv} {l:List Tsk} (hp:parOk s = true) (hok:tasksOk l = true) (hb:∀ x:Int,1≤x→x≤4096→deadB l x = true→tasksI l x≤givI (rowI s) x):∀ n:Nat,n≤4096→tasksI l n≤givI (rowI s) n:=by
 have hl:=(tasksOk_parts hok).1;intro n;induction n with
 | zero =>
  intro _;have h0:tsumI l ((0:Nat):Int) = 0:=by
   have:∀ m:List Tsk,(∀ t ∈ m,LegT t)→tsumI m ((0:Nat):Int) = 0:=by
    intro m;induction m with
    | nil => intro _;rfl
    | cons t m ih =>
     intro hm;have h1:=ih (fun x hx => hm x (List.mem_cons_of_mem _ hx));obtain ⟨a1,a2,a3,a4,a5,a6⟩:=hm t (List.mem_cons_self ..);have h2:taskI t ((0:Nat):Int) = 0:=by unfold taskI;rw [if_pos (by omega)]
     unfold tsumI at h1 ⊢;rw [sumI_cons,h1,h2];rfl
   exact this l hl
  unfold tasksI;rw [h0,if_pos rfl];exact giv_nonneg (rowI_ok hp) _
 | succ n ih =>
  intro hn;have h1:=ih (by omega);have e:((n + 1:Nat):Int) = (n:Int) + 1:=by omega
  rw [e];cases hd:deadB l ((n:Int) + 1) with
  | true => exact hb _ (by omega) (by omega) hd
  | false =>
   have h2:=tsum_stay l hl hd;have h3:=blk_falls (n:=(n:Int)) l.length l rfl;have h4:=giv_mono (rowI_ok hp) (show (n:Int)≤(n:Int) + 1 by omega);unfold tasksI at h1 ⊢;rw [h2];split
   ·rename_i h0;rw [if_pos h0] at h1;omega
   ·rename_i h0;rw [if_neg h0] at h1;omega
theorem line_beyond {s:Srv} {p:Int × Int} {more dm:Int} (hp:parOk s = true) (hsh:Shr p) (hl:lineB s p more = true) {n:Nat} (hn:4096≤n) (hd:p.2 * dm≤p.1 * n + p.2 * more):dm≤givI (rowI s) n:=by
 have hr:=rowI_ok hp;have hg:=giv_slope hr (n:Int);obtain ⟨p1,p2,p3,p4⟩:=hsh;obtain ⟨g0,g1,q1,qt,t2⟩:=hr;unfold lineB silI at hl;rw [Bool.and_eq_true,decide_eq_true_iff,decide_eq_true_iff,cmpI_le_iff] at hl;obtain ⟨l1,l2⟩:=hl;have l1':p.1 * (rowI s).t≤p.2 * (rowI s).q:=by
  cases hw:whole s with
  | true =>
   rw [wiC_whole _ hp hw,cmpI_neg_iff] at l1;rw [whole_row hw];dsimp only;omega
  | false =>
   rw [wiC_leg _ hp hw,cmpI_neg_iff] at l1;obtain ⟨e1,e2,_⟩:=leg_row hw;rw [e1,e2];omega
 generalize p.1 = N at *;generalize p.2 = D at *;generalize hQ:(rowI s).q = Q at *;generalize hT:(rowI s).t = T at *;generalize hG:givI (rowI s) n = gv at *;generalize hgap:(rowI s).gap = gp at *;have a1:T * (D * dm)≤T * (N * n + D * more):=Int.mul_le_mul_of_nonneg_left hd (by omega);have a2:(N * T) * ((n:Int) - 4096)≤(D * Q) * ((n:Int) - 4096):=Int.mul_le_mul_of_nonneg_right l1' (by omega);have a3:D * (Q * ((n:Int) - (gp + T - Q)))≤D * (T * gv):=Int.mul_le_mul_of_nonneg_left hg (by omega);have b1:T * (N * n + D * more) = (N * 4096 + D * more) * T + N * T * ((n:Int) - 4096):=by
  rw [Int.mul_comm T,Int.add_mul,Int.add_mul,Int.mul_sub,Int.mul_assoc N n T,Int.mul_comm (n:Int) T,← Int.mul_assoc N T n,Int.mul_assoc N 4096 T,Int.mul_comm 4096 T,← Int.mul_assoc N T 4096];omega
 have b2:D * (Q * (4096 - (gp + T - Q))) + D * Q * ((n:Int) - 4096) = D * (Q * ((n:Int) - (gp + T - Q))):=by
  have e:(4096 - (gp + T - Q)) + ((n:Int) - 4096) = (n:Int) - (gp + T - Q):=by omega
  rw [← Int.mul_assoc,← Int.mul_assoc,← Int.mul_add,e]
 have c1:T * (D * dm)≤D * (T * gv):=by omega
 have b3:D * (T * gv) = T * (D * gv):=Int.mul_left_comm D T gv;rw [b3] at c1;have c2:=Int.le_of_mul_le_mul_left c1 (by omega);exact Int.le_of_mul_le_mul_left c2 (by omega)
end Go.Proofs.YtdfelohjdkcpkaaGreatDoor
namespace Go.Proofs.YtdfelohjdkcpkaaGreatDoor
open Go.RowKit
theorem givM_zero {r:Row} (h:RowOk r):givM r 0 = 0:=by
 have h1:=h.qt;unfold givM;rw [Int.zero_ediv,Int.zero_emod,Int.zero_mul];omega
def atI (r:Row) (i:Int):Bool:=decide (r.gap≤i) && decide (r.t - r.q≤(i - r.gap) % r.t)
theorem giv_step {r:Row} (h:RowOk r) {i:Int}:givI r (i + 1) = givI r i + (if atI r i = true then 1 else 0):=by
 obtain ⟨g0,g1,q1,qt,t2⟩:=h;unfold atI;by_cases hg:r.gap≤i
 ·rw [decide_eq_true hg,Bool.true_and];have e1:givI r i = givM r (i - r.gap):=by
   unfold givI;split
   ·rw [show i - r.gap = 0 by omega,givM_zero ⟨g0,g1,q1,qt,t2⟩]
   ·rfl
  have e2:givI r (i + 1) = givM r (i - r.gap + 1):=by
   unfold givI;rw [if_neg (by omega)];congr 1;omega
  rw [e1,e2];obtain ⟨x,u,hx,x0,u0,u1,f1,f2⟩:=givM_parts ⟨g0,g1,q1,qt,t2⟩ (show 0≤i - r.gap by omega);obtain ⟨y,v,hy,y0,v0,v1,k1,k2⟩:=givM_parts ⟨g0,g1,q1,qt,t2⟩ (show 0≤i - r.gap + 1 by omega);unfold givM;rw [f1,f2,k1,k2];by_cases hu:u + 1 = r.t
  ·have hyx:y = x + 1:=by
    have a1:r.t * y < r.t * (x + 2):=by rw [Int.mul_add];omega
    have a2:r.t * (x + 1) < r.t * (y + 1):=by rw [Int.mul_add,Int.mul_add];omega
    have:=Int.lt_of_mul_lt_mul_left a1 (by omega);have:=Int.lt_of_mul_lt_mul_left a2 (by omega);omega
   subst hyx;rw [Int.mul_add] at hy;have hv:v = 0:=by omega
   have e3:(x + 1) * r.q = x * r.q + r.q:=by rw [Int.add_mul,Int.one_mul]
   rw [e3];split
   ·omega
   ·rename_i hn;exact absurd (decide_eq_true (show r.t - r.q≤u by omega)) hn
  ·have hyx:y = x:=by
    have a1:r.t * y < r.t * (x + 1):=by rw [Int.mul_add];omega
    have a2:r.t * x < r.t * (y + 1):=by rw [Int.mul_add];omega
    have:=Int.lt_of_mul_lt_mul_left a1 (by omega);have:=Int.lt_of_mul_lt_mul_left a2 (by omega);omega
   subst hyx;have hv:v = u + 1:=by omega
   subst hv;split
   ·rename_i hn;have:=of_decide_eq_true hn;omega
   ·rename_i hn;have:¬ r.t - r.q≤u:=fun e => hn (decide_eq_true e)
    omega
 ·rw [decide_eq_false hg,Bool.false_and,if_neg (by decide)];unfold givI;rw [if_pos (by omega),if_pos (by omega)];rfl
theorem giv_cut {r:Row} (h:RowOk r) {l p:Int} (hp:0≤p) (hl:r.gap < l - p * r.t):givI r l = p * r.q + givI r (l - p * r.t):=by
 obtain ⟨g0,g1,q1,qt,t2⟩:=h;have h1:=Int.mul_nonneg hp (show 0≤r.t by omega);unfold givI;rw [if_neg (by omega),if_neg (by omega)];have e:l - r.gap = (l - p * r.t - r.gap) + p * r.t:=by omega
 unfold givM;rw [e,Int.add_mul_ediv_right _ _ (by omega),Int.add_mul_emod_self_right,Int.add_mul];omega
theorem whole_k {s:Srv} (h:parOk s = true):(s.k = 0 ↔ whole s = true):=by
 unfold parOk at h;constructor
 ·intro hk;cases hw:whole s with
  | true => rfl
  | false =>
   rw [hw,Bool.false_or] at h;obtain ⟨h1,h2,_⟩:=(Srv.leg_iff _).1 h;omega
 ·intro hw;unfold whole at hw;exact (of_decide_eq_true hw).1
theorem giv_whole {s:Srv} (hw:whole s = true) {l:Int} (hl:0≤l):givI (rowI s) l = l:=by
 rw [whole_row hw];unfold givI givM;dsimp only;split
 ·omega
 ·rw [Int.ediv_one,Int.emod_one];omega
set_option maxHeartbeats 800000 in
theorem gap10_any (s:Srv) (w:World) (hs:Leg s) (hr:(rowI s).gap = if s.k = 3 then s.t - s.q else s.t - 1) :
 Calls Tryz.prog 173 #[.agg #[.int .i64 s.k,.int .i64 s.q,.int .i64 s.t]] w fun e w' => e = .returned (.int .i64 (rowI s).gap)∧Gr w w':=by
 obtain ⟨h1,h2,h3,h4,h5⟩:=hs;rw [hr];replace hr:=Lib.hid hr;have hk0:(s.k == 0) = false:=by simpa using (by omega:¬ s.k = 0)
 by_cases hk:s.k = 3
 ·rw [if_pos hk];have hk':(s.k == 3) = true:=by simpa using hk
  clear hk;go_enter Tryz.func173,Tryz.ntmps173;go_wp2_with fail;go_ret;exact ⟨rfl,(by repeat (first | exact Gr.refl _ | apply Gr.alloc | apply Gr.drew | apply Gr.drewN | (refine Gr.setCell ?_ (by first | (simp;done) | (simp;omega)) _) | (refine Gr.trans ?_ (by assumption))))⟩
 ·rw [if_neg hk];have hk':(s.k == 3) = false:=by simpa using hk
  clear hk;go_enter Tryz.func173,Tryz.ntmps173;go_wp2_with fail;go_ret;exact ⟨rfl,(by repeat (first | exact Gr.refl _ | apply Gr.alloc | apply Gr.drew | apply Gr.drewN | (refine Gr.setCell ?_ (by first | (simp;done) | (simp;omega)) _) | (refine Gr.trans ?_ (by assumption))))⟩
theorem leg_gap {s:Srv} (hw:whole s = false):(rowI s).gap = if s.k = 3 then s.t - s.q else s.t - 1:=by
 unfold rowI;rw [hw,if_neg (by decide)];split <;> rfl
set_option maxRecDepth 100000 in
set_option maxHeartbeats 1600000 in
theorem at10_any (s:Srv) (i:Int) (w:World) (hp:parOk s = true) (hw:whole s = false) (i0:0≤i) (i1:i≤1099511627776) :
 Calls Tryz.prog 101 #[.agg #[.int .i64 s.k,.int .i64 s.q,.int .i64 s.t],.int .i64 i] w fun e w' => e = .returned (.bool (atI (rowI s) i))∧Gr w w':=by
 have hs:Leg s:=by
  unfold parOk at hp;rw [hw,Bool.false_or] at hp;exact (Srv.leg_iff _).1 hp
 have hgap:=fun w => gap10_any s w hs (leg_gap hw)
 obtain ⟨e1,e2,_⟩:=leg_row hw;obtain ⟨g0,g1,q1,qt,t2⟩:=rowI_ok hp;obtain ⟨h1,h2,h3,h4,h5⟩:=hs;have hk0:(s.k == 0) = false:=by simpa using (by omega:¬ s.k = 0)
 unfold atI;rw [e1,e2] at *;generalize (rowI s).gap = gp at *;replace hgap:=Lib.hid hgap;replace hp:=Lib.hid hp;replace hw:=Lib.hid hw;replace e1:=Lib.hid e1;replace e2:=Lib.hid e2;by_cases hg:gp≤i
 ·rw [decide_eq_true hg,Bool.true_and];have n0:=Int.emod_nonneg (i - gp) (show s.t ≠ 0 by omega);have n1:=Int.emod_lt_of_pos (i - gp) (show 0 < s.t by omega);have ht0:(s.t == 0) = false:=by simpa using (by omega:¬ s.t = 0)
  have ht1:0 < s.t:=by omega
  have hd0:0≤i - gp:=by omega
  have hw1:IntKind.i64.wrap (i - gp) = i - gp:=by rw [IntKind.wrap_i64];omega
  have hw2:IntKind.i64.wrap (s.t - s.q) = s.t - s.q:=by rw [IntKind.wrap_i64];omega
  have hq:(i - gp).tmod s.t = (i - gp) % s.t:=Int.tmod_eq_emod_of_nonneg hd0;have hw3:IntKind.i64.wrap ((i - gp) % s.t) = (i - gp) % s.t:=by rw [IntKind.wrap_i64];omega
  go_enter Tryz.func101,Tryz.ntmps101;go_wp2_with fail;refine (hgap.out _).mono ?_;rintro e wa ⟨rfl,ga⟩;obtain ⟨ca,fa,sa⟩:=ga.cells;try simp only [size_drewN] at ca fa sa
  try simp only [World.size_alloc] at ca fa sa
  try simp only [World.size_drew] at ca fa sa
  try simp only [World.size_setCell] at ca fa sa
  have za0:w.heap.size < wa.heap.size:=by omega
  have ya0:w.heap.size≤wa.heap.size:=by omega
  have ka0:=fun o => ca (w.heap.size) o (by omega)
  have ja0:=fun o => fa (w.heap.size) o (by omega)
  go_wp2_with fail;have c0:wa.cell? ⟨w.heap.size,0,none⟩ = some (.int .i64 s.k):=by simp (maxDischargeDepth:=8) [go_sem, *]
  have c1:wa.cell? ⟨w.heap.size,1,none⟩ = some (.int .i64 s.q):=by simp (maxDischargeDepth:=8) [go_sem, *]
  have c2:wa.cell? ⟨w.heap.size,2,none⟩ = some (.int .i64 s.t):=by simp (maxDischargeDepth:=8) [go_sem, *]
  have q0:=GrW.cell c0;have q1:=GrW.cell c1;have q2:=GrW.cell c2;refine wp_region_grows (by kernel_rfl) (by kernel_rfl) ?_;repeat (any_goals (first | go_big_quiet_step (first | (exact Calls.grows (hgap.out _))) | quiet_step (first | (exact Calls.grows (hgap.out _)))))
  refine wpQuiet_nil ?_;intro wb hwq;have gb:=GrW.of hwq;clear hwq;obtain ⟨cb,fb,sb⟩:=gb.cells;try simp only [size_drewN] at cb fb sb
  try simp only [World.size_alloc] at cb fb sb
  try simp only [World.size_drew] at cb fb sb
  try simp only [World.size_setCell] at cb fb sb
  go_wp2_with fail;go_ret;exact ⟨rfl,(((Gr.refl w).alloc _).trans ga).trans gb⟩
 ·rw [decide_eq_false hg,Bool.false_and];have hg2:i < gp:=by omega
  go_enter Tryz.func101,Tryz.ntmps101;go_wp2_with fail;refine (hgap.out _).mono ?_;rintro e wa ⟨rfl,ga⟩;obtain ⟨ca,fa,sa⟩:=ga.cells;try simp only [size_drewN] at ca fa sa
  try simp only [World.size_alloc] at ca fa sa
  try simp only [World.size_drew] at ca fa sa
  try simp only [World.size_setCell] at ca fa sa
  have za0:w.heap.size < wa.heap.size:=by omega
  have ya0:w.heap.size≤wa.heap.size:=by omega
  have ka0:=fun o => ca (w.heap.size) o (by omega)
  have ja0:=fun o => fa (w.heap.size) o (by omega)
  go_wp2_with fail;go_ret;exact ⟨rfl,(by repeat (first | exact Gr.refl _ | apply Gr.alloc | apply Gr.drew | apply Gr.drewN | (refine Gr.setCell ?_ (by first | (simp;done) | (simp;omega)) _) | (refine Gr.trans ?_ (by assumption))))⟩
set_option maxRecDepth 100000 in
set_option maxHeartbeats 3200000 in
theorem rbound10_any (s:Srv) (l:Int) (w:World) (hp:parOk s = true) (hl:LenOk l) :
 Calls Tryz.prog 176 #[.agg #[.int .i64 s.k,.int .i64 s.q,.int .i64 s.t],.int .i64 l] w fun e w' => e = .returned (.int .i64 (givI (rowI s) l))∧Gr w w':=by
 have l1:=hl.1;have l2:=hl.2;cases hw:whole s with
 | true =>
  have hk:(s.k == 0) = true:=by simpa using (whole_k hp).2 hw
  rw [giv_whole hw l1];replace hw:=Lib.hid hw;replace hp:=Lib.hid hp;go_enter Tryz.func176,Tryz.ntmps176;go_wp2_with fail;go_ret;exact ⟨rfl,(by repeat (first | exact Gr.refl _ | apply Gr.alloc | apply Gr.drew | apply Gr.drewN | (refine Gr.setCell ?_ (by first | (simp;done) | (simp;omega)) _) | (refine Gr.trans ?_ (by assumption))))⟩
 | false =>
  have hk:(s.k == 0) = false:=by
   have:¬ s.k = 0:=fun e => by have:=(whole_k hp).1 e;rw [hw] at this;cases this
   simpa using this
  have hat:=fun i w i0 i1 => at10_any s i w hp hw i0 i1
  obtain ⟨e1,e2,_⟩:=leg_row hw;have hro:=rowI_ok hp;have hr:=hro;obtain ⟨g0,g1,q1,qt,t2⟩:=hr;have hst:=fun i:Int => giv_step (r:=rowI s) (i:=i) hro
  have hgb:=fun i (h0:0≤i) => giv_le hro h0
  have hgn:=fun i => giv_nonneg hro i
  have hz:givI (rowI s) 0 = 0:=by have:=hgb 0 (by omega);have:=hgn 0;omega
  have hcu:=fun p hp0 hp1 => giv_cut (l:=l) (p:=p) hro hp0 hp1
  simp only [e1,e2] at hcu g1 q1 qt t2;obtain ⟨G,hG⟩:∃ G,G = givI (rowI s):=⟨_,rfl⟩
  simp only [← hG] at hcu hst hgb hgn hz ⊢;generalize (rowI s).gap = gp at *;replace hG:=Lib.hid hG;replace hcu:=Lib.hid hcu;replace hst:=Lib.hid hst;replace hat:=Lib.hid hat;replace hgb:=Lib.hid hgb;replace hgn:=Lib.hid hgn;replace hz:=Lib.hid hz;replace hp:=Lib.hid hp;replace hw:=Lib.hid hw;replace e1:=Lib.hid e1;replace e2:=Lib.hid e2;replace hro:=Lib.hid hro;obtain ⟨n0,m,hm0,hm1,hn0,hn1,hGl,hcase⟩:∃ n0 m:Int,0≤m∧m≤1099511627776∧0≤n0∧n0 + m≤2199023255552∧G l = n0 + G m∧((4 * s.t < l∧n0 = (l - 3 * s.t) / s.t * s.q∧m = l - (l - 3 * s.t) / s.t * s.t) ∨ (¬ 4 * s.t < l∧n0 = 0∧m = l)):=by
   by_cases h4:4 * s.t < l
   ·have e3:=Int.mul_ediv_add_emod (l - 3 * s.t) s.t;have e4:=Int.emod_nonneg (l - 3 * s.t) (show s.t ≠ 0 by omega);have e5:=Int.emod_lt_of_pos (l - 3 * s.t) (show 0 < s.t by omega);have e6:=Int.ediv_nonneg (show 0≤l - 3 * s.t by omega) (show 0≤s.t by omega);have e7:=hcu.out _ e6;generalize (l - 3 * s.t) / s.t = x at *;have e8:=Int.mul_comm s.t x;have e9:=Int.mul_le_mul_of_nonneg_left qt e6;have e10:=Int.mul_nonneg e6 (show 0≤s.q by omega);exact ⟨x * s.q,l - x * s.t,by omega,by omega,e10,by omega,e7 (by omega),.inl ⟨h4,rfl,rfl⟩⟩
   ·exact ⟨0,l,by omega,by omega,by omega,by omega,by omega,.inr ⟨h4,rfl,rfl⟩⟩
  rw [hGl];replace hGl:=Lib.hid hGl;rcases hcase with ⟨h4,hn,hm⟩ | ⟨h4,hn,hm⟩
  ·obtain ⟨a1,a2,a3⟩:=quo_mul_le (l:=l - 3 * s.t) (q:=s.q) (by omega) (by omega) (show 1≤s.t by omega) qt;obtain ⟨b1,b2,b3⟩:=quo_mul_le (l:=l - 3 * s.t) (q:=s.t) (by omega) (by omega) (show 1≤s.t by omega) (Int.le_refl _);go_enter Tryz.func176,Tryz.ntmps176;go_wp2_with fail;go_loopw [7,5] (fun iv nv wr => ∃ k:Nat,(k:Int)≤m∧iv = .int .i64 k∧nv = .int .i64 (n0 + G k)∧Gr (w.alloc (.cells #[.int .i64 s.k,.int .i64 s.q,.int .i64 s.t] 29)) wr) (fun iv _ _ => m.toNat - (intOf iv).toNat);case atStart => exact ⟨0,by omega,rfl,by have hz0:=hz.out;rw [hn,show ((0:Nat):Int) = 0 from rfl,hz0];go_num,Gr.refl _⟩
   case round =>
    obtain ⟨k,hk2,rfl,rfl,hg⟩:=hrel;have gall:Gr w wr:=((Gr.refl w).alloc _).trans hg;obtain ⟨cg,fg,sg⟩:=hg.cells;simp only [World.size_alloc] at cg fg sg;have k1:=fun o => cg w.heap.size o (by omega)
    clear cg fg;have b4:=hgn.out k;have b5:=hgb.out k (by omega);by_cases hlt:(k:Int) < m
    ·have hlt2:(k:Int) < l - (l - 3 * s.t) / s.t * s.t:=by omega
     have hs:=hst.out k;have hca:=fun w => hat.out k w (by omega) (by omega)
     obtain ⟨b,hb⟩:∃ b,b = atI (rowI s) (k:Int):=⟨_,rfl⟩
     rw [← hb] at hs hca;replace hb:=Lib.hid hb;replace hca:=Lib.hid hca;cases b with
     | true =>
      rw [if_pos rfl] at hs;replace hs:=Lib.hid hs;go_wp2_with fail;refine (hca.out _).mono ?_;rintro e w2 ⟨rfl,g2⟩;go_wp2_with fail;go_roundw;case rel => exact ⟨k + 1,by omega,by go_num,by have h9:=hs.out;rw [show ((k + 1:Nat):Int) = (k:Int) + 1 by omega];congr 1;omega,hg.trans g2⟩
      case measure => simp [intOf];omega
     | false =>
      rw [if_neg (by decide)] at hs;replace hs:=Lib.hid hs;go_wp2_with fail;refine (hca.out _).mono ?_;rintro e w2 ⟨rfl,g2⟩;go_wp2_with fail;go_roundw;case rel => exact ⟨k + 1,by omega,by go_num,by have h9:=hs.out;rw [show ((k + 1:Nat):Int) = (k:Int) + 1 by omega];congr 1;omega,hg.trans g2⟩
      case measure => simp [intOf];omega
    ·have hlt2:l - (l - 3 * s.t) / s.t * s.t≤(k:Int):=by omega
     have hkm:(k:Int) = m:=by omega
     rw [hkm];rw [hkm] at b4 b5 hlt2;replace hkm:=Lib.hid hkm;go_wp2_with fail;go_ret;exact ⟨rfl,gall⟩
  ·go_enter Tryz.func176,Tryz.ntmps176;go_wp2_with fail;go_loopw [7,5] (fun iv nv wr => ∃ k:Nat,(k:Int)≤m∧iv = .int .i64 k∧nv = .int .i64 (n0 + G k)∧Gr (w.alloc (.cells #[.int .i64 s.k,.int .i64 s.q,.int .i64 s.t] 29)) wr) (fun iv _ _ => m.toNat - (intOf iv).toNat);case atStart => exact ⟨0,by omega,rfl,by have hz0:=hz.out;rw [hn,show ((0:Nat):Int) = 0 from rfl,hz0];go_num,Gr.refl _⟩
   case round =>
    obtain ⟨k,hk2,rfl,rfl,hg⟩:=hrel;have gall:Gr w wr:=((Gr.refl w).alloc _).trans hg;obtain ⟨cg,fg,sg⟩:=hg.cells;simp only [World.size_alloc] at cg fg sg;have k1:=fun o => cg w.heap.size o (by omega)
    clear cg fg;have b4:=hgn.out k;have b5:=hgb.out k (by omega);by_cases hlt:(k:Int) < m
    ·have hlt2:(k:Int) < l:=by omega
     have hs:=hst.out k;have hca:=fun w => hat.out k w (by omega) (by omega)
     obtain ⟨b,hb⟩:∃ b,b = atI (rowI s) (k:Int):=⟨_,rfl⟩
     rw [← hb] at hs hca;replace hb:=Lib.hid hb;replace hca:=Lib.hid hca;cases b with
     | true =>
      rw [if_pos rfl] at hs;replace hs:=Lib.hid hs;go_wp2_with fail;refine (hca.out _).mono ?_;rintro e w2 ⟨rfl,g2⟩;go_wp2_with fail;go_roundw;case rel => exact ⟨k + 1,by omega,by go_num,by have h9:=hs.out;rw [show ((k + 1:Nat):Int) = (k:Int) + 1 by omega];congr 1;omega,hg.trans g2⟩
      case measure => simp [intOf];omega
     | false =>
      rw [if_neg (by decide)] at hs;replace hs:=Lib.hid hs;go_wp2_with fail;refine (hca.out _).mono ?_;rintro e w2 ⟨rfl,g2⟩;go_wp2_with fail;go_roundw;case rel => exact ⟨k + 1,by omega,by go_num,by have h9:=hs.out;rw [show ((k + 1:Nat):Int) = (k:Int) + 1 by omega];congr 1;omega,hg.trans g2⟩
      case measure => simp [intOf];omega
    ·have hlt2:l≤(k:Int):=by omega
     have hkm:(k:Int) = m:=by omega
     rw [hkm];rw [hkm] at b4 b5 hlt2;replace hkm:=Lib.hid hkm;go_wp2_with fail;go_ret;exact ⟨rfl,gall⟩
end Go.Proofs.YtdfelohjdkcpkaaGreatDoor
namespace Go.Proofs
open Go.Shelf
def Tryz.lays189_ren:Go.Shelf.Ren:=⟨fun | 189 => 248 | 125 => 268 | 257 => 267 | 128 => 282 | 129 => 283 | 294 => 273 | 295 => 274 | 296 => 275 | 297 => 276 | 298 => 277 | 299 => 278 | 216 => 279 | 300 => 280 | 301 => 281 | 328 => 285 | 329 => 286 | 330 => 287 | 331 => 288 | 332 => 289 | 215 => 193 | 343 => 290 | n => n,fun | 28 => 72 | 3 => 3 | 46 => 290 | 0 => 0 | 51 => 211 | 53 => 191 | 4 => 4 | 183 => 367 | 182 => 366 | 131 => 142 | 5 => 5 | 9 => 9 | 218 => 376 | 222 => 380 | 228 => 382 | 229 => 129 | n => n,fun | n => n⟩
theorem Tryz.lays189:Go.Proofs.Lays.n189 Tryz.prog Tryz.lays189_ren:={
 mixed:=by kernel_rfl
 f125:=Tryz.func268.trans (congrArg some (by kernel_rfl))
 f128:=Tryz.func282.trans (congrArg some (by kernel_rfl))
 f129:=Tryz.func283.trans (congrArg some (by kernel_rfl))
 f189:=Tryz.func248.trans (congrArg some (by kernel_rfl))
 f215:=Tryz.func193.trans (congrArg some (by kernel_rfl))
 f216:=Tryz.func279.trans (congrArg some (by kernel_rfl))
 f257:=Tryz.func267.trans (congrArg some (by kernel_rfl))
 f294:=Tryz.func273.trans (congrArg some (by kernel_rfl))
 f295:=Tryz.func274.trans (congrArg some (by kernel_rfl))
 f296:=Tryz.func275.trans (congrArg some (by kernel_rfl))
 f297:=Tryz.func276.trans (congrArg some (by kernel_rfl))
 f298:=Tryz.func277.trans (congrArg some (by kernel_rfl))
 f299:=Tryz.func278.trans (congrArg some (by kernel_rfl))
 f300:=Tryz.func280.trans (congrArg some (by kernel_rfl))
 f301:=Tryz.func281.trans (congrArg some (by kernel_rfl))
 f328:=Tryz.func285.trans (congrArg some (by kernel_rfl))
 f329:=Tryz.func286.trans (congrArg some (by kernel_rfl))
 f330:=Tryz.func287.trans (congrArg some (by kernel_rfl))
 f331:=Tryz.func288.trans (congrArg some (by kernel_rfl))
 f332:=Tryz.func289.trans (congrArg some (by kernel_rfl))
 f343:=Tryz.func290.trans (congrArg some (by kernel_rfl))
 t0:=Tryz.underlying0
 a0:=Tryz.isAgg0
 z0:=Tryz.sizeOf0
 v0:=Tryz.zeroValue0
 t3:=Tryz.underlying3
 a3:=Tryz.isAgg3
 z3:=Tryz.sizeOf3
 v3:=Tryz.zeroValue3
 t4:=Tryz.underlying4
 a4:=Tryz.isAgg4
 z4:=Tryz.sizeOf4
 v4:=Tryz.zeroValue4
 t5:=Tryz.underlying5
 a5:=Tryz.isAgg5
 z5:=Tryz.sizeOf5
 v5:=Tryz.zeroValue5
 t9:=Tryz.underlying9
 a9:=Tryz.isAgg9
 z9:=Tryz.sizeOf9
 v9:=Tryz.zeroValue9
 t28:=Tryz.underlying72
 a28:=Tryz.isAgg72
 z28:=Tryz.sizeOf72
 v28:=Tryz.zeroValue72
 t46:=Tryz.underlying290
 a46:=Tryz.isAgg290
 z46:=Tryz.sizeOf290
 v46:=Tryz.zeroValue290
 t51:=Tryz.underlying211
 a51:=Tryz.isAgg211
 z51:=Tryz.sizeOf211
 v51:=Tryz.zeroValue211
 t53:=Tryz.underlying191
 a53:=Tryz.isAgg191
 z53:=Tryz.sizeOf191
 v53:=Tryz.zeroValue191
 t131:=Tryz.underlying142
 a131:=Tryz.isAgg142
 z131:=Tryz.sizeOf142
 v131:=Tryz.zeroValue142
 t182:=Tryz.underlying366
 a182:=Tryz.isAgg366
 z182:=Tryz.sizeOf366
 v182:=Tryz.zeroValue366
 t183:=Tryz.underlying367
 a183:=Tryz.isAgg367
 z183:=Tryz.sizeOf367
 v183:=Tryz.zeroValue367
 t218:=Tryz.underlying376
 a218:=Tryz.isAgg376
 z218:=Tryz.sizeOf376
 v218:=Tryz.zeroValue376
 t222:=Tryz.underlying380
 a222:=Tryz.isAgg380
 z222:=Tryz.sizeOf380
 v222:=Tryz.zeroValue380
 t228:=Tryz.underlying382
 a228:=Tryz.isAgg382
 z228:=Tryz.sizeOf382
 v228:=Tryz.zeroValue382
 t229:=Tryz.underlying129
 a229:=Tryz.isAgg129
 z229:=Tryz.sizeOf129
 v229:=Tryz.zeroValue129 }
open Go.Sort Go.RowKit in
theorem Tryz.slices_Sort_int (blk off cap:Nat) (zs:List Int) (w:World) (hH:Holds (Value.int .i64) w blk off zs.toArray) (hblk:blk < w.heap.size) (hsz:zs.length < 4611686018427387904) :
 Calls Tryz.prog 248 #[.slice (some ⟨blk,off,none⟩) zs.length cap] w fun e w' =>
  e = .returned (.tuple #[])∧∃ n os,w' = grow (putRow (Value.int .i64) (Sort.ahead w n) blk off (zs.mergeSort fun x y => decide (x≤y)).toArray) os:=Any.slices_Sort_int Tryz.lays189 blk off cap zs w hH hblk hsz
def Tryz.laysNm220_ren:Go.Shelf.Ren:=⟨fun | 20 => 249 | n => n,fun | 22 => 72 | 3 => 3 | 4 => 4 | 0 => 0 | n => n,fun | n => n⟩
theorem Tryz.laysNm220:Go.Proofs.Lays2.n20 Tryz.prog Tryz.laysNm220_ren:={
 mixed:=by kernel_rfl
 f20:=Tryz.func249.trans (congrArg some (by kernel_rfl))
 t0:=Tryz.underlying0
 a0:=Tryz.isAgg0
 z0:=Tryz.sizeOf0
 v0:=Tryz.zeroValue0
 t3:=Tryz.underlying3
 a3:=Tryz.isAgg3
 z3:=Tryz.sizeOf3
 v3:=Tryz.zeroValue3
 t4:=Tryz.underlying4
 a4:=Tryz.isAgg4
 z4:=Tryz.sizeOf4
 v4:=Tryz.zeroValue4
 t22:=Tryz.underlying72
 a22:=Tryz.isAgg72
 z22:=Tryz.sizeOf72
 v22:=Tryz.zeroValue72
 i3:=by kernel_rfl }
open Go.RowKit Go.Lib Go.Sort in
open Go.RowKit Go.Lib Go.Sort in
theorem Tryz.slices_Compact_int (blk off cap:Nat) (zs:List Int) (w:World) (hH:Holds (Value.int .i64) w blk off zs.toArray) (hsz:zs.length≤9223372036854775807) (hcap:zs.length≤cap) :
 Calls Tryz.prog 249 #[.slice (some ⟨blk,off,none⟩) zs.length cap] w fun e w' => e = .returned (.slice (some ⟨blk,off,none⟩) (Lib.compact zs).length cap)∧∃ q,w' = putRow (Value.int .i64) (Sort.ahead w q) blk off (Lib.compact zs ++ List.replicate (zs.length - (Lib.compact zs).length) 0).toArray:=Any.slices_Compact_int Tryz.laysNm220 blk off cap zs w hH hsz hcap
open Go.RowKit Go.Lib Go.Sort in
theorem Tryz.slices_Compact_int_empty (a:Option Addr) (cap:Nat) (w:World) :
 Calls Tryz.prog 249 #[.slice a 0 cap] w fun e w' => e = .returned (.slice a 0 cap)∧w' = w:=Any.slices_Compact_int_empty Tryz.laysNm220 a cap w
open Go.RowKit Go.Sort in
theorem Tryz.slices_Sort_int_none (p:Option Addr) (cap:Nat) (w:World) :
 Calls Tryz.prog 248 #[.slice p 0 cap] w fun e w' => e = .returned (.tuple #[])∧w' = w:=Any.slices_Sort_int_none Tryz.lays189 p cap w
end Go.Proofs
namespace Go.Proofs.YtdfelohjdkcpkaaGreatDoor
section
open Go.RowKit Go.Sort Go.Lib
theorem flat_ints (l:List Int):l.flatMap intC = l.map (Value.int .i64):=by
 induction l with
 | nil => rfl
 | cons a l ih => rw [List.flatMap_cons,ih];rfl
theorem owns_grow {w:World} {base:Nat} {e:TypeId} {size:Nat} {v:Value} {n:Nat} {xs:List Value} (h:w.ownsRow base e size v n xs) (os:Array Obj):(grow w os).ownsRow base e size v n xs:=by
 refine ⟨h.1,?_⟩;rcases h.2 with hn | ⟨b,cap,cur,h1,h2,h3,h4⟩
 ·exact .inl hn
 ·exact .inr ⟨b,cap,cur,h1,h2,by rw [heap_grow_old w os (Array.getElem?_eq_some_iff.1 h3).1];exact h3,h4⟩
theorem gr_grow {W w:World} (h:Gr W w) (os:Array Obj):Gr W (grow w os) :=
 ⟨h.os,h.tape,h.output,by have:=h.size;simp;omega,fun k hk => by rw [heap_grow_old w os (by have:=h.size;omega)];exact h.block k hk⟩
theorem sort_owned {W w:World} {base:Nat} {v:Value} {ls:List Int} (h:w.ownsRow base 3 1 v ls.length (ls.flatMap intC)) (g:Gr W w) (hb:W.heap.size≤base) (hl:ls.length≤40000) :
 Calls Tryz.prog 248 #[v] w fun e w' => e = .returned (.tuple #[])∧Gr W w'∧w'.ownsRow base 3 1 v ls.length ((ls.mergeSort fun x y => decide (x≤y)).flatMap intC):=by
 rw [flat_ints] at h;rw [flat_ints];by_cases hv:v = .slice none 0 0
 ·subst hv;have h0:ls.length = 0:=by
   rcases h.2 with ⟨_,h0⟩ | ⟨g,cap,cur,e0,_⟩
   ·exact h0
   ·cases e0
  obtain rfl:=List.length_eq_zero_iff.1 h0;refine (Tryz.slices_Sort_int_none none 0 w).mono ?_;rintro e w' ⟨rfl,rfl⟩;exact ⟨rfl,g,by simpa using h⟩
 ·obtain ⟨q,cap,rfl,hbq,hq,hn,hm,hlen,hH⟩:=holds_of_ownsRow h hv;refine (Tryz.slices_Sort_int q 0 cap ls w hH hq (by omega)).mono ?_;rintro e w' ⟨rfl,n,os,rfl⟩;refine ⟨rfl,gr_grow (below_putRow g (by omega)) os,owns_grow ?_ os⟩;have:=ownsRow_putRow (q:=n) (k:=ls.length) h (ys:=ls.mergeSort fun x y => decide (x≤y)) (by simp) (Nat.le_refl _)
  rwa [List.take_of_length_le (by simp)] at this
theorem compact_owned {W w:World} {base:Nat} {v:Value} {ls:List Int} (h:w.ownsRow base 3 1 v ls.length (ls.flatMap intC)) (g:Gr W w) (hb:W.heap.size≤base) (hl:ls.length≤40000) :
 Calls Tryz.prog 249 #[v] w fun e w' => ∃ v',e = .returned v'∧Gr W w'∧w'.ownsRow base 3 1 v' (compact ls).length ((compact ls).flatMap intC):=by
 rw [flat_ints] at h;rw [flat_ints];by_cases hv:v = .slice none 0 0
 ·subst hv;have h0:ls.length = 0:=by
   rcases h.2 with ⟨_,h0⟩ | ⟨g,cap,cur,e0,_⟩
   ·exact h0
   ·cases e0
  obtain rfl:=List.length_eq_zero_iff.1 h0;refine (Tryz.slices_Compact_int_empty none 0 w).mono ?_;rintro e w' ⟨rfl,rfl⟩;exact ⟨_,rfl,g,h⟩
 ·obtain ⟨q,cap,rfl,hbq,hq,hn,hm,hlen,hH⟩:=holds_of_ownsRow h hv;refine (Tryz.slices_Compact_int q 0 cap ls w hH (by omega) hn).mono ?_;rintro e w' ⟨rfl,n,rfl⟩;have hcl:=compact_length_le ls;refine ⟨_,rfl,below_putRow g (by omega),?_⟩;have:=ownsRow_putRow (q:=n) (k:=(compact ls).length) h (ys:=compact ls ++ List.replicate (ls.length - (compact ls).length) 0) (by simp;omega) hcl
  rwa [List.take_left'  rfl] at this
theorem mem_compact {ls:List Int} {x:Int}:x ∈ compact ls ↔ x ∈ ls:=by
 unfold compact compactUpTo;rw [List.mem_map];constructor
 ·rintro ⟨j,hj,rfl⟩;have h1:=List.mem_range.1 (List.mem_filter.1 hj).1;have e1:ls.toArray[j]! = ls[j]:=by simp [getElem!_pos,h1]
  rw [e1];exact List.getElem_mem h1
 ·intro hx;obtain ⟨i,hi,rfl⟩:=List.getElem_of_mem hx;have key:∀ i,(hi:i < ls.length)→∃ j,j ∈ (List.range ls.length).filter (keeps ls.toArray)∧ls.toArray[j]! = ls[i]:=by
   intro i;induction i with
   | zero =>
    intro hi;exact ⟨0,List.mem_filter.2 ⟨List.mem_range.2 hi,by simp [keeps]⟩,by simp [getElem!_pos,hi]⟩
   | succ i ih =>
    intro hi;by_cases he:ls[i + 1] = ls[i]
    ·obtain ⟨j,hj,hj2⟩:=ih (by omega);exact ⟨j,hj,by rw [hj2,he]⟩
    ·refine ⟨i + 1,List.mem_filter.2 ⟨List.mem_range.2 hi,?_⟩,by simp [getElem!_pos,hi]⟩;refine keeps_pos ?_;simp [getElem!_pos,hi,show i < ls.length by omega];exact he
  exact key i hi
end
open Go.RowKit Go.Lib
def Deads (l:List Tsk) (ls:List Int):Prop:=∀ x,x ∈ ls ↔ (x≤4096∧deadB l x = true)
theorem deads_nil:Deads [] []:=fun x => by simp [deadB]
theorem deads_snoc {l:List Tsk} {t:Tsk} {ls ls':List Int} {j:Nat} (h:Deads l ls) (ht:LegT t) (hm:∀ x,x ∈ ls' ↔ x ∈ ls ∨ ∃ i:Nat,i < j∧x = t.d + i * t.p) (h1:4096 < t.d + j * t.p) (h2:∀ i:Nat,i < j→t.d + i * t.p≤4096):Deads (l ++ [t]) ls':=by
 obtain ⟨a1,a2,a3,a4,a5,a6⟩:=ht;intro x;rw [hm x,h x];have e:deadB (l ++ [t]) x = (deadB l x || decide (t.d≤x∧(x - t.d) % t.p = 0)):=by unfold deadB;simp
 rw [e,Bool.or_eq_true,decide_eq_true_iff];constructor
 ·rintro (⟨b1,b2⟩ | ⟨i,hi,rfl⟩)
  ·exact ⟨b1,.inl b2⟩
  ·refine ⟨h2 i hi,.inr ⟨?_,?_⟩⟩
   ·have:=Int.mul_nonneg (show (0:Int)≤i by omega) (show 0≤t.p by omega);omega
   ·rw [show t.d + i * t.p - t.d = i * t.p by omega,Int.mul_emod_left]
 ·rintro ⟨b1,b2 | ⟨b2,b3⟩⟩
  ·exact .inl ⟨b1,b2⟩
  ·right;have e1:=Int.mul_ediv_add_emod (x - t.d) t.p;have e2:=Int.ediv_nonneg (show 0≤x - t.d by omega) (show 0≤t.p by omega);have e3:(((x - t.d) / t.p).toNat:Int) = (x - t.d) / t.p:=by omega
   generalize (x - t.d) / t.p = q at *;have e4:q * t.p = t.p * q:=Int.mul_comm _ _;refine ⟨q.toNat,?_,by rw [e3];omega⟩;by_cases hq:q.toNat < j
   ·exact hq
   ·have e5:=Int.mul_le_mul_of_nonneg_right (show (j:Int)≤q by omega) (show 0≤t.p by omega);omega
theorem steps_few {t:Tsk} (ht:LegT t) {j:Nat} (h:∀ i:Nat,i < j→t.d + i * t.p≤4096):j≤4096:=by
 obtain ⟨a1,a2,a3,a4,a5,a6⟩:=ht;cases j with
 | zero => omega
 | succ j =>
  have h1:=h j (by omega);have h2:=Int.mul_le_mul_of_nonneg_left (show 1≤t.p by omega) (show (0:Int)≤j by omega);omega
theorem own_ne {w:World} {base:Nat} {e:TypeId} {size:Nat} {v:Value} {n:Nat} {xs:List Value} (h:w.ownsRow base e size v n xs) {b:Nat} {cs:Array Value} {t:TypeId} (hb:Blk w b cs t) (hte:t ≠ e):some b ≠ v.ownBlock:=by
 intro he;obtain ⟨_,h | ⟨g,cap,cur,hv,hg,hh,_⟩⟩:=h
 ·obtain ⟨rfl,_⟩:=h;simp [Value.ownBlock] at he
 ·subst hv;simp only [Value.ownBlock,Option.some.injEq] at he;subst he;unfold Blk at hb;rw [hh] at hb;cases hb
  exact hte rfl
theorem Blk.grown {w w':World} {b:Nat} {cs:Array Value} {t:TypeId} {row:Option Nat} (h:Blk w b cs t) (hg:w.grownBy w' row) (hn:some b ≠ row):Blk w' b cs t:=by unfold Blk;rw [hg.block b h.lt hn];exact h
set_option maxRecDepth 100000 in
set_option maxHeartbeats 3200000 in
theorem deadlines_any (a:Option Addr) (l:List Tsk) (c:Nat) (w:World) (hl:TsksAt w a l) (hok:tasksOk l = true) :
 Calls Tryz.prog 215 #[.slice a l.length c] w fun e w' => ∃ aL ls cL,e = .returned (.slice aL ls.length cL)∧ls.length≤40000∧Deads l ls∧IntsAt w' aL ls∧Gr w w':=by
 obtain ⟨i3,hi,hz0,hz1,hz2⟩:=info_parts Tryz.infoInt;have h8:=(tasksOk_parts hok).2;have hleg:=fun k t (h:l[k]? = some t) => legT_mem hok h
 replace hok:=Lib.hid hok;replace hleg:=Lib.hid hleg;go_enter Tryz.func215,Tryz.ntmps215;go_wp2_with fail;go_loopw [9,3] (fun iv ov wr => ∃ (k:Nat) (ls:List Int),k≤l.length∧iv = .int .i64 k∧ls.length≤k * 4096∧Deads (l.take k) ls∧wr.ownsRow w.heap.size 3 1 ov ls.length (ls.flatMap intC)∧Gr w wr) (fun iv _ _ => l.length - (intOf iv).toNat);case atStart => exact ⟨0,[],Nat.zero_le _,rfl,by simp,by rw [List.take_zero];exact deads_nil,World.ownsRow_nil _ _ _ _,Gr.refl _⟩
 case round =>
  obtain ⟨k,ls,hk,rfl,hln,hde,hown,hg⟩:=hrel;replace hde:=Lib.hid hde;by_cases hlt:k < l.length
  ·obtain ⟨t,ht⟩:=get_some l k hlt;obtain ⟨b,off,rfl,hb,c0,c1,c2,c3⟩:=(hl.gr hg) k t ht;have hlt':=hleg.out k t ht;have hts:=take_snoc ht;obtain ⟨a1,a2,a3,a4,a5,a6⟩:=hlt';replace hts:=Lib.hid hts;replace ht:=Lib.hid ht;obtain ⟨wo,rfl⟩:∃ wo:World,wo = wr:=⟨_,rfl⟩
   have gwo:=hg.alloc (.cells #[.int .i64 t.c,.int .i64 t.p,.int .i64 t.d,.int .i64 t.s] 41);have hB:=Blk.new wo #[.int .i64 t.c,.int .i64 t.p,.int .i64 t.d,.int .i64 t.s] 41;have hown0:=owns_gr hown ((Gr.refl wo).alloc (.cells #[.int .i64 t.c,.int .i64 t.p,.int .i64 t.d,.int .i64 t.s] 41));replace hB:=Lib.hid hB;have hwb:w.heap.size≤wo.heap.size:=hg.size;clear hown;go_wp2_with fail;go_loopw [6,3] (fun lv ov wr => ∃ (j:Nat) (ls':List Int),lv = .int .i64 (t.d + j * t.p)∧ls'.length = ls.length + j∧(∀ x,x ∈ ls' ↔ x ∈ ls ∨ ∃ i:Nat,i < j∧x = t.d + i * t.p)∧(∀ i:Nat,i < j→t.d + i * t.p≤4096)∧wr.ownsRow w.heap.size 3 1 ov ls'.length (ls'.flatMap intC)∧Blk wr wo.heap.size #[.int .i64 t.c,.int .i64 t.p,.int .i64 t.d,.int .i64 t.s] 41∧Gr w wr) (fun lv _ _ => 8192 - (intOf lv).toNat);case atStart => exact ⟨0,ls,by go_num,by omega,(fun x => by simp),(fun i hi => by omega),hown0,hB.out,gwo⟩
   case round =>
    obtain ⟨j,ls',rfl,hlj,hmem,hfew,hown,hBt,hgr⟩:=hrel;have hj4:=steps_few ⟨a1,a2,a3,a4,a5,a6⟩ hfew;have hjp:0≤(j:Int) * t.p:=Int.mul_nonneg (by omega) (by omega);have hjp2:(j:Int) * t.p≤4096 * 256:=Int.mul_le_mul (by omega) (by omega) (by omega) (by omega);have c0:=hBt.cell (i:=1) (v:=.int .i64 t.p) rfl;have hjn:t.d + ((j + 1:Nat):Int) * t.p = t.d + (j:Int) * t.p + t.p:=by push_cast;rw [Int.add_mul];omega
    replace hmem:=Lib.hid hmem;replace hfew:=Lib.hid hfew;replace hBt:=Lib.hid hBt;have hsz:=hgr.size;have hwt:wo.heap.size < wr.heap.size:=hBt.out.lt;by_cases hle:t.d + (j:Int) * t.p≤4096
    ·obtain ⟨v0,hv0⟩:∃ v0,v0 = t.d + (j:Int) * t.p:=⟨_,rfl⟩
     rw [← hv0] at hle hjn ⊢;have hmem2:∀ x,x ∈ ls' ++ [v0] ↔ x ∈ ls ∨ ∃ i:Nat,i < j + 1∧x = t.d + i * t.p:=fun x => by
      rw [List.mem_append,hmem.out x,List.mem_singleton];constructor
      ·rintro ((h1 | ⟨i,hi,rfl⟩) | rfl)
       ·exact .inl h1
       ·exact .inr ⟨i,by omega,rfl⟩
       ·exact .inr ⟨j,by omega,hv0⟩
      ·rintro (h1 | ⟨i,hi,rfl⟩)
       ·exact .inl (.inl h1)
       ·by_cases hij:i = j
        ·subst hij;exact .inr hv0.symm
        ·exact .inl (.inr ⟨i,by omega,rfl⟩)
     have hfew2:∀ i:Nat,i < j + 1→t.d + i * t.p≤4096:=fun i hi => by
      by_cases hij:i = j
      ·subst hij;omega
      ·exact hfew.out i (by omega)
     have hj5:=steps_few ⟨a1,a2,a3,a4,a5,a6⟩ hfew2;have hv1:0≤v0:=by omega
     replace hmem2:=Lib.hid hmem2;replace hfew2:=Lib.hid hfew2;replace hv0:=Lib.hid hv0;replace hjn:=Lib.hid hjn;have n1:ls'.length + ([v0]:List Int).length≤maxLen:=by unfold maxLen;simp;omega
     have n2:(ls'.length + ([v0]:List Int).length) * 8≤140737488355328:=by simp;omega
     have n3:w.heap.size≤wr.heap.size:=hsz;have n4:(ls' ++ [v0]).length = ls.length + (j + 1):=by rw [List.length_append,hlj];simp;omega
     replace n4:=Lib.hid n4;go_wp2_with (at_builtin;refine wpList_append_recs (k:=1) (enc:=intC) rfl _ _ 72 rfl w.heap.size 3 i3 _ 8 Tryz.underlying72 hi hz0 hz1 hz2 rfl (by decide) intC_len intC_one _ ls' rfl (hown.alloc _) (some ⟨wr.heap.size,0,none⟩) 1 [v0] rfl (recs_alloc intC_len wr [v0] _ _ rfl) (fun h => by cases h) n1 n2 (le_alloc n3 _) ?_;intro v1 w1 hown1 hgr1;have hB1:=(hBt.out.alloc (.cells #[.int .i64 v0] 3)).grown hgr1 (own_ne hown hBt.out (by decide));have hg1:Gr w w1:=(hgr.alloc _).grown hgr1 (own_block hown);have c7:=hB1.cell (i:=1) (v:=.int .i64 t.p) rfl;replace hB1:=Lib.hid hB1);go_roundw;case rel => exact ⟨j + 1,_,by rw [hjn.out],n4.out,hmem2.out,hfew2.out,hown1,hB1.out,hg1⟩
     case measure => simp [intOf];omega
    ·have hgt:4096 < t.d + (j:Int) * t.p:=by omega
     have hd2:Deads (l.take (k + 1)) ls':=by
      rw [hts.out];exact deads_snoc hde.out ⟨a1,a2,a3,a4,a5,a6⟩ hmem.out hgt hfew.out
     replace hd2:=Lib.hid hd2;go_wp2_with fail;go_roundw;case rel => exact ⟨k + 1,ls',by omega,by go_num,by omega,hd2.out,hown,hgr⟩
     case measure => simp [intOf];omega
  ·have hall:l.take k = l:=List.take_of_length_le (by omega);rw [hall] at hde;have h40:ls.length≤40000:=by omega
   go_wp2_with fail;refine (sort_owned hown hg (Nat.le_refl _) h40).mono ?_;rintro e w2 ⟨rfl,g2,hown2⟩;have hlm:(ls.mergeSort fun x y => decide (x≤y)).length = ls.length:=List.length_mergeSort ls;have hown3:w2.ownsRow w.heap.size 3 1 u3 (ls.mergeSort fun x y => decide (x≤y)).length ((ls.mergeSort fun x y => decide (x≤y)).flatMap intC):=by rw [hlm];exact hown2
   have hde2:Deads l (compact (ls.mergeSort fun x y => decide (x≤y))):=fun x => by
    rw [mem_compact,List.mem_mergeSort];exact hde.out x
   have hlc:=compact_length_le (ls.mergeSort fun x y => decide (x≤y));have hcm:=compact_owned hown3 g2 (Nat.le_refl _) (by omega);have hlc2:(compact (ls.mergeSort fun x y => decide (x≤y))).length≤40000:=by omega
   generalize compact (ls.mergeSort fun x y => decide (x≤y)) = ls2 at *;clear hown2 hown3 hown;replace hde2:=Lib.hid hde2;replace hcm:=Lib.hid hcm;go_wp2_with fail;refine hcm.out.mono ?_;rintro e w3 ⟨v3,rfl,g3,hown4⟩;obtain ⟨a3,c3,rfl,hr3,_,_⟩:=recs_of_owns intC_len hown4;replace hr3:=Lib.hid hr3;clear hown4;go_wp2_with fail;go_ret;exact ⟨a3,ls2,c3,rfl,hlc2,hde2.out,hr3.out,g3⟩
end Go.Proofs.YtdfelohjdkcpkaaGreatDoor
namespace Go.Proofs.YtdfelohjdkcpkaaGreatDoor
open Go.RowKit
set_option maxHeartbeats 800000 in
theorem guest1_fn (lb:Nat) (a:Option Addr) (l:List Tsk) (c:Nat) (n:Int) (w:World) (hl:TsksAt w a l) (h:chkT l n = none) (hc:w.cell? ⟨lb,0,none⟩ = some (.slice a l.length c)) :
 Calls Tryz.prog 213 #[.int .i64 n,.pointer (some ⟨lb,0,none⟩)] w fun e w' => e = .returned (.tuple #[.int .i64 (tasksI l n),.nilIface])∧Gr w w':=by
 have hd:=dtasks_yes a l c n w hl h;have hlb:=cell_lt0 hc;replace h:=Lib.hid h;replace hd:=Lib.hid hd;go_enter Tryz.func213,Tryz.ntmps213;go_wp2_with fail;refine (hd.out).mono ?_;rintro e wa ⟨rfl,ga⟩;obtain ⟨ca,fa,sa⟩:=ga.cells;try simp only [size_drewN] at ca fa sa
 try simp only [World.size_alloc] at ca fa sa
 try simp only [World.size_drew] at ca fa sa
 try simp only [World.size_setCell] at ca fa sa
 go_wp2_with fail;go_ret2;exact ⟨rfl,ga⟩
theorem tasksI_bd {l:List Tsk} (h:tasksOk l = true) {n:Int} (hn:LenOk n):0≤tasksI l n∧tasksI l n≤8 * (1099511627776 + 256) + 256:=by
 have h1:=tsumI_bd h hn l.length;have h2:=blkI_bd h (n:=n) l.length;rw [List.take_length] at h1 h2;unfold tasksI;split <;> omega
set_option maxRecDepth 100000 in
set_option maxHeartbeats 3200000 in
theorem below_tasks (s:Srv) (aL:Option Addr) (ls:List Int) (cL:Nat) (lb:Nat) (a:Option Addr) (l:List Tsk) (c:Nat) (w:World) (h:parOk s = true) (hL:IntsAt w aL ls) (hm:ls.length≤40000) (hls:∀ x ∈ ls,LenOk x) (hl:TsksAt w a l) (hk:∀ x,LenOk x→chkT l x = none) (hok:tasksOk l = true) (hc:w.cell? ⟨lb,0,none⟩ = some (.slice a l.length c)) :
 Calls Tryz.prog 202 #[.agg #[.int .i64 s.k,.int .i64 s.q,.int .i64 s.t],.slice aL ls.length cL,.func (.func 213) #[] #[.pointer (some ⟨lb,0,none⟩)]] w fun e w' => e = .returned (.bool (belowB s ls (tasksI l)))∧Gr w w':=by
 have hlb:=cell_lt0 hc;unfold belowB;replace hok:=Lib.hid hok;go_enter Tryz.func202,Tryz.ntmps202;go_wp2_with fail;go_loopw [14] (fun iv wr => ∃ k:Nat,k≤ls.length∧iv = .int .i64 k∧(ls.take k).all (fun l' => decide (tasksI l l'≤givI (rowI s) l')) = true∧Gr (w.alloc (.cells #[.int .i64 s.k,.int .i64 s.q,.int .i64 s.t] 29)) wr) (fun iv _ => ls.length - (intOf iv).toNat);case atStart => exact ⟨0,Nat.zero_le _,rfl,rfl,Gr.refl _⟩
 case round =>
  obtain ⟨k,hkl,rfl,hall,hg⟩:=hrel;have gall:Gr w wr:=((Gr.refl w).alloc _).trans hg;obtain ⟨cg,fg,sg⟩:=hg.cells;simp only [World.size_alloc] at cg fg sg;have k1:=fun o => cg w.heap.size o (by omega)
  clear cg fg;replace hall:=Lib.hid hall;by_cases hlt:k < ls.length
  ·obtain ⟨x,hx⟩:=get_some ls k hlt;obtain ⟨b,off,rfl,hb,c0⟩:=(hL.gr gall).get hx;have hxo:=hls x (get_mem hx);have hts:=take_snoc hx;have hbd:=tasksI_bd hok.out hxo;have hgv:=giv_nonneg (rowI_ok h) x;have hgl:=giv_le (rowI_ok h) hxo.1;have hxo2:=hxo.2;have hk1:=fun w' (g:Gr w w') => guest1_fn lb a l c x w' (hl.gr g) (hk x hxo) (by rw [g.cells.1 lb 0 hlb];exact hc)
   have hbo:=fun w' => bound_yes s x w' h hxo
   obtain ⟨v,hv⟩:∃ v,v = decide (tasksI l x≤givI (rowI s) x):=⟨_,rfl⟩
   have hnext:(ls.take (k + 1)).all (fun l' => decide (tasksI l l'≤givI (rowI s) l')) = v:=by
    rw [hts,List.all_append,hall.out,hv];simp
   have hno:v = false→ls.all (fun l' => decide (tasksI l l'≤givI (rowI s) l')) = false:=fun hvf => by
    cases hh:ls.all (fun l' => decide (tasksI l l'≤givI (rowI s) l')) with
    | false => rfl
    | true =>
     have:=List.all_eq_true.1 hh x (get_mem hx);rw [← hv,hvf] at this;cases this
   obtain ⟨hbd1,hbd2⟩:=hbd;replace hnext:=Lib.hid hnext;replace hno:=Lib.hid hno;replace hk1:=Lib.hid hk1;replace hbo:=Lib.hid hbo;clear hts;replace hx:=Lib.hid hx;replace hxo:=Lib.hid hxo;cases v with
   | true =>
    have hle:tasksI l x≤givI (rowI s) x:=of_decide_eq_true hv.symm;clear hv;go_wp2_with fail;refine (hk1.out wr gall).mono ?_;rintro e w2 ⟨rfl,g2⟩;obtain ⟨c2,f2,s2⟩:=g2.cells;have k2:=fun o => c2 w.heap.size o (by omega)
    clear c2 f2;go_wp2_with fail;refine (hbo.out _).mono ?_;rintro e w3 ⟨rfl,g3⟩;go_wp2_with fail;go_roundw;case rel => exact ⟨k + 1,by omega,by go_num,hnext.out,(hg.trans g2).trans g3⟩
    case measure => simp [intOf];omega
   | false =>
    have hle:givI (rowI s) x < tasksI l x:=by have:=of_decide_eq_false hv.symm;omega
    clear hv;go_wp2_with fail;refine (hk1.out wr gall).mono ?_;rintro e w2 ⟨rfl,g2⟩;obtain ⟨c2,f2,s2⟩:=g2.cells;have k2:=fun o => c2 w.heap.size o (by omega)
    clear c2 f2;go_wp2_with fail;refine (hbo.out _).mono ?_;rintro e w3 ⟨rfl,g3⟩;go_wp2_with fail;go_ret;exact ⟨retb (hno.out trivial).symm,(gall.trans g2).trans g3⟩
  ·have hall2:ls.take k = ls:=List.take_of_length_le (by omega);rw [hall2] at hall;go_wp2_with fail;go_ret;exact ⟨retb hall.out.symm,gall⟩
def fitsD (s:Srv) (l:List Tsk):Bool:=(List.range 4097).all fun n => !deadB l (n:Int) || decide (tasksI l n≤givI (rowI s) n)
theorem dead_pos {l:List Tsk} (hok:tasksOk l = true) {x:Int} (h:deadB l x = true):1≤x:=by
 unfold deadB at h;rw [List.any_eq_true] at h;obtain ⟨t,ht,hd⟩:=h;obtain ⟨h1,h2,_⟩:=(tasksOk_parts hok).1 t ht;have:=(of_decide_eq_true hd).1;omega
theorem fitsD_iff {s:Srv} {l:List Tsk}:fitsD s l = true ↔ ∀ n:Nat,n≤4096→deadB l n = true→tasksI l n≤givI (rowI s) n:=by
 unfold fitsD;rw [List.all_eq_true];constructor
 ·intro h n hn hd;have:=h n (List.mem_range.2 (by omega));rw [hd] at this;exact of_decide_eq_true this
 ·intro h n hn;cases hd:deadB l (n:Int) with
  | false => rfl
  | true => exact decide_eq_true (h n (by have:=List.mem_range.1 hn;omega) hd)
theorem below_deads {s:Srv} {l:List Tsk} {ls:List Int} (hok:tasksOk l = true) (h:Deads l ls):belowB s ls (tasksI l) = fitsD s l:=by
 rw [Bool.eq_iff_iff,fitsD_iff];unfold belowB;rw [List.all_eq_true];constructor
 ·intro hb n hn hd;exact of_decide_eq_true (hb n ((h n).2 ⟨by omega,hd⟩))
 ·intro hb x hx;obtain ⟨h1,h2⟩:=(h x).1 hx;have h3:=dead_pos hok h2;have e:((x.toNat:Nat):Int) = x:=by omega
  have:=hb x.toNat (by omega) (by rw [e];exact h2);rw [e] at this;exact decide_eq_true this
theorem chkT_ok {l:List Tsk} (hok:tasksOk l = true) {x:Int} (hx:LenOk x):chkT l x = none:=by
 obtain ⟨h1,h2⟩:=hx;unfold chkT;rw [if_neg (by rw [hok];decide),if_neg (by omega)]
end Go.Proofs.YtdfelohjdkcpkaaGreatDoor
