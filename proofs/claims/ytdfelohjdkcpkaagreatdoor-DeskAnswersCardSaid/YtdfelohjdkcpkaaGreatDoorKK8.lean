/- AdmitBeyond: servers that fit fit at every length. AdmitBeyond: a guest that fits under PolicyDeadline fits at every length. -/
import Derived.Test.YtdfelohjdkcpkaaGreatDoorKK7
import Derived.Deep.DeepCutAuto
import Derived.Lib.SliceRun
set_option maxRecDepth 100000
set_option maxHeartbeats 6400000
namespace Go.Proofs.YtdfelohjdkcpkaaGreatDoor
open Go.RowKit
theorem D0 {l:List AA} (h:AF l = true):Nz (Aq l):=by
 obtain ⟨h1,h8⟩:=Ay h;have hal:Bh l = true:=by
  unfold Bh;rw [List.all_eq_true];intro x hx;exact (AA.leg_iff x).2 (h1 x hx)
 have hb:=FR l hal l.length (Nat.le_refl _);rw [List.take_length] at hb;obtain ⟨b1,b2,b3,b4⟩:=hb;have hp:=GR h8;have h0:=FK l.length;have:(l.length:Int) * CZ l.length≤8 * 18446744073709551616:=Int.mul_le_mul (by omega) hp (by omega) (by omega);exact ⟨b1,by omega,b3,by omega⟩
def BL (l:List AA):Int:=A0 (fun t => t.c) l
def Bg (l:List AA):Int:=l.foldl (fun b t => max b t.s) 0
theorem DK (l:List AA) (t:AA):Bg (l ++ [t]) = max (Bg l) t.s:=by unfold Bg;rw [List.foldl_append];rfl
theorem DY {l:List AA} (h:AF l = true) (k:Nat):0≤BL (l.take k)∧BL (l.take k)≤2048:=by
 obtain ⟨h1,h8⟩:=Ay h;have:=C4 (fun t:AA => t.c) (l.take k) 256 (fun x hx => by
  obtain ⟨a1,a2,a3,a4,a5,a6⟩:=h1 x (List.mem_of_mem_take hx);omega)
 have h2:(l.take k).length≤8:=by rw [List.length_take];omega
 unfold BL;omega
theorem D8 {l:List AA} (h:AF l = true) (k:Nat):0≤Bg (l.take k)∧Bg (l.take k)≤256:=by
 induction k with
 | zero => rw [List.take_zero];exact ⟨Int.le_refl _,by simp [Bg]⟩
 | succ k ih =>
  cases ht:l[k]? with
  | none => rw [List.take_add_one,ht];simpa using ih
  | some t =>
   obtain ⟨h1,h2,h3,h4,h5,h6⟩:=BQ h ht;rw [Ae ht,DK];omega
def Ds (l:List AA) (n:Int):Bool:=l.any fun t => decide (t.d≤n∧(n - t.d) % t.p = 0)
theorem Oo {m p:Int} (hp:1≤p) (h:(m + 1) % p ≠ 0):(m + 1) / p = m / p:=by
 have e1:=Int.mul_ediv_add_emod m p;have e2:=Int.emod_nonneg m (show p ≠ 0 by omega);have e3:=Int.emod_lt_of_pos m (show 0 < p by omega);have f1:=Int.mul_ediv_add_emod (m + 1) p;have f2:=Int.emod_nonneg (m + 1) (show p ≠ 0 by omega);have f3:=Int.emod_lt_of_pos (m + 1) (show 0 < p by omega);generalize (m + 1) / p = x at *;generalize m / p = y at *;have h1:p * x < p * (y + 1):=by rw [Int.mul_add,Int.mul_one];omega
 have h2:p * y < p * (x + 1):=by rw [Int.mul_add,Int.mul_one];omega
 have h3:=Int.lt_of_mul_lt_mul_left h1 (by omega);have h4:=Int.lt_of_mul_lt_mul_left h2 (by omega);omega
theorem Mi {t:AA} (ht:Ia t) {n:Int} (h:¬ (t.d≤n + 1∧(n + 1 - t.d) % t.p = 0)):CT t (n + 1) = CT t n:=by
 obtain ⟨h1,h2,h3,h4,h5,h6⟩:=ht;unfold CT;by_cases hn:n + 1 < t.d
 ·rw [if_pos hn,if_pos (by omega)]
 ·rw [if_neg hn];have hm:¬ (n + 1 - t.d) % t.p = 0:=fun e => h ⟨by omega,e⟩
  have hne:n + 1 ≠ t.d:=fun e => hm (by rw [e];simp)
  rw [if_neg (by omega)];have e:n + 1 - t.d = (n - t.d) + 1:=by omega
  rw [e] at hm ⊢;rw [Oo (by omega) hm]
theorem Mf {n:Int}:∀ (l:List AA),(∀ t ∈ l,Ia t)→Ds l (n + 1) = false→BT l (n + 1) = BT l n:=by
 intro l;induction l with
 | nil => intro _ _;rfl
 | cons t l ih =>
  intro hl hd;unfold Ds at hd;rw [List.any_cons,Bool.or_eq_false_iff] at hd;obtain ⟨d1,d2⟩:=hd;have h1:=ih (fun x hx => hl x (List.mem_cons_of_mem _ hx)) d2;have h2:=Mi (hl t (List.mem_cons_self ..)) (of_decide_eq_false d1);have key:∀ m,BT (t :: l) m = CT t m + BT l m:=fun m => by unfold BT;rw [BD]
  rw [key,key,h1,h2]
theorem Nq {n:Int}:∀ (k:Nat) (l:List AA),l.length = k→Do l (n + 1)≤Do l n:=by
 intro k;induction k with
 | zero => intro l hl;obtain rfl:=List.length_eq_zero_iff.1 hl;exact Int.le_refl _
 | succ k ih =>
  intro l hl;obtain ⟨m,x,rfl⟩:∃ m x,l = m ++ [x]:=by
   have hne:l ≠ []:=fun e => by rw [e] at hl;cases hl
   exact ⟨l.dropLast,l.getLast hne,(List.dropLast_concat_getLast hne).symm⟩
  have h1:=ih m (by simpa using hl);rw [DR,DR];split <;> split <;> omega
theorem KT {s:Ao} {l:List AA} (hp:AE s = true) (hok:AF l = true) (hb:∀ x:Int,1≤x→x≤4096→Ds l x = true→A3 l x≤Au (Ak s) x):∀ n:Nat,n≤4096→A3 l n≤Au (Ak s) n:=by
 have hl:=(Ay hok).1;intro n;induction n with
 | zero =>
  intro _;have h0:BT l ((0:Nat):Int) = 0:=by
   have:∀ m:List AA,(∀ t ∈ m,Ia t)→BT m ((0:Nat):Int) = 0:=by
    intro m;induction m with
    | nil => intro _;rfl
    | cons t m ih =>
     intro hm;have h1:=ih (fun x hx => hm x (List.mem_cons_of_mem _ hx));obtain ⟨a1,a2,a3,a4,a5,a6⟩:=hm t (List.mem_cons_self ..);have h2:CT t ((0:Nat):Int) = 0:=by unfold CT;rw [if_pos (by omega)]
     unfold BT at h1 ⊢;rw [BD,h1,h2];rfl
   exact this l hl
  unfold A3;rw [h0,if_pos rfl];exact Bx (Be hp) _
 | succ n ih =>
  intro hn;have h1:=ih (by omega);have e:((n + 1:Nat):Int) = (n:Int) + 1:=by omega
  rw [e];cases hd:Ds l ((n:Int) + 1) with
  | true => exact hb _ (by omega) (by omega) hd
  | false =>
   have h2:=Mf l hl hd;have h3:=Nq (n:=(n:Int)) l.length l rfl;have h4:=Ko (Be hp) (show (n:Int)≤(n:Int) + 1 by omega);unfold A3 at h1 ⊢;rw [h2];split
   ·rename_i h0;rw [if_pos h0] at h1;omega
   ·rename_i h0;rw [if_neg h0] at h1;omega
theorem Kg {s:Ao} {p:Int × Int} {more dm:Int} (hp:AE s = true) (hsh:Nz p) (hl:BU s p more = true) {n:Nat} (hn:4096≤n) (hd:p.2 * dm≤p.1 * n + p.2 * more):dm≤Au (Ak s) n:=by
 have hr:=Be hp;have hg:=M2 hr (n:Int);obtain ⟨p1,p2,p3,p4⟩:=hsh;obtain ⟨g0,g1,q1,qt,t2⟩:=hr;unfold BU DG at hl;rw [Bool.and_eq_true,decide_eq_true_iff,decide_eq_true_iff,EA] at hl;obtain ⟨l1,l2⟩:=hl;have l1':p.1 * (Ak s).t≤p.2 * (Ak s).q:=by
  cases hw:BK s with
  | true =>
   rw [EJ _ hp hw,Cn] at l1;rw [DB hw];dsimp only;omega
  | false =>
   rw [GI _ hp hw,Cn] at l1;obtain ⟨e1,e2,_⟩:=Fx hw;rw [e1,e2];omega
 generalize p.1 = N at *;generalize p.2 = D at *;generalize hQ:(Ak s).q = Q at *;generalize hT:(Ak s).t = T at *;generalize hG:Au (Ak s) n = gv at *;generalize hgap:(Ak s).gap = gp at *;have a1:T * (D * dm)≤T * (N * n + D * more):=Int.mul_le_mul_of_nonneg_left hd (by omega);have a2:(N * T) * ((n:Int) - 4096)≤(D * Q) * ((n:Int) - 4096):=Int.mul_le_mul_of_nonneg_right l1' (by omega);have a3:D * (Q * ((n:Int) - (gp + T - Q)))≤D * (T * gv):=Int.mul_le_mul_of_nonneg_left hg (by omega);have b1:T * (N * n + D * more) = (N * 4096 + D * more) * T + N * T * ((n:Int) - 4096):=by
  rw [Int.mul_comm T,Int.add_mul,Int.add_mul,Int.mul_sub,Int.mul_assoc N n T,Int.mul_comm (n:Int) T,← Int.mul_assoc N T n,Int.mul_assoc N 4096 T,Int.mul_comm 4096 T,← Int.mul_assoc N T 4096];omega
 have b2:D * (Q * (4096 - (gp + T - Q))) + D * Q * ((n:Int) - 4096) = D * (Q * ((n:Int) - (gp + T - Q))):=by
  have e:(4096 - (gp + T - Q)) + ((n:Int) - 4096) = (n:Int) - (gp + T - Q):=by omega
  rw [← Int.mul_assoc,← Int.mul_assoc,← Int.mul_add,e]
 have c1:T * (D * dm)≤D * (T * gv):=by omega
 have b3:D * (T * gv) = T * (D * gv):=Int.mul_left_comm D T gv;rw [b3] at c1;have c2:=Int.le_of_mul_le_mul_left c1 (by omega);exact Int.le_of_mul_le_mul_left c2 (by omega)
theorem M3 {r:Jx} (h:DS r):Ey r 0 = 0:=by
 have h1:=h.qt;unfold Ey;rw [Int.zero_ediv,Int.zero_emod,Int.zero_mul];omega
def NB (r:Jx) (i:Int):Bool:=decide (r.gap≤i) && decide (r.t - r.q≤(i - r.gap) % r.t)
theorem Fz {r:Jx} (h:DS r) {i:Int}:Au r (i + 1) = Au r i + (if NB r i = true then 1 else 0):=by
 obtain ⟨g0,g1,q1,qt,t2⟩:=h;unfold NB;by_cases hg:r.gap≤i
 ·rw [decide_eq_true hg,Bool.true_and];have e1:Au r i = Ey r (i - r.gap):=by
   unfold Au;split
   ·rw [show i - r.gap = 0 by omega,M3 ⟨g0,g1,q1,qt,t2⟩]
   ·rfl
  have e2:Au r (i + 1) = Ey r (i - r.gap + 1):=by
   unfold Au;rw [if_neg (by omega)];congr 1;omega
  rw [e1,e2];obtain ⟨x,u,hx,x0,u0,u1,f1,f2⟩:=Cx ⟨g0,g1,q1,qt,t2⟩ (show 0≤i - r.gap by omega);obtain ⟨y,v,hy,y0,v0,v1,k1,k2⟩:=Cx ⟨g0,g1,q1,qt,t2⟩ (show 0≤i - r.gap + 1 by omega);unfold Ey;rw [f1,f2,k1,k2];by_cases hu:u + 1 = r.t
  ·have hyx:y = x + 1:=by
    have a1:r.t * y < r.t * (x + 2):=by rw [Int.mul_add];omega
    have a2:r.t * (x + 1) < r.t * (y + 1):=by rw [Int.mul_add,Int.mul_add];omega
    have:=Int.lt_of_mul_lt_mul_left a1 (by omega);have:=Int.lt_of_mul_lt_mul_left a2 (by omega);omega
   subst hyx;rw [Int.mul_add] at hy;have hv:v = 0:=by omega
   have e3:(x + 1) * r.q = x * r.q + r.q:=by rw [Int.add_mul,Int.one_mul]
   rw [e3];split
   ·omega
   ·rename_i hn;exact absurd (decide_eq_true (show r.t - r.q≤u by omega)) hn
  ·have hyx:y = x:=by
    have a1:r.t * y < r.t * (x + 1):=by rw [Int.mul_add];omega
    have a2:r.t * x < r.t * (y + 1):=by rw [Int.mul_add];omega
    have:=Int.lt_of_mul_lt_mul_left a1 (by omega);have:=Int.lt_of_mul_lt_mul_left a2 (by omega);omega
   subst hyx;have hv:v = u + 1:=by omega
   subst hv;split
   ·rename_i hn;have:=of_decide_eq_true hn;omega
   ·rename_i hn;have:¬ r.t - r.q≤u:=fun e => hn (decide_eq_true e)
    omega
 ·rw [decide_eq_false hg,Bool.false_and,if_neg (by decide)];unfold Au;rw [if_pos (by omega),if_pos (by omega)];rfl
theorem O1 {r:Jx} (h:DS r) {l p:Int} (hp:0≤p) (hl:r.gap < l - p * r.t):Au r l = p * r.q + Au r (l - p * r.t):=by
 obtain ⟨g0,g1,q1,qt,t2⟩:=h;have h1:=Int.mul_nonneg hp (show 0≤r.t by omega);unfold Au;rw [if_neg (by omega),if_neg (by omega)];have e:l - r.gap = (l - p * r.t - r.gap) + p * r.t:=by omega
 unfold Ey;rw [e,Int.add_mul_ediv_right _ _ (by omega),Int.add_mul_emod_self_right,Int.add_mul];omega
theorem GJ {s:Ao} (h:AE s = true):(s.k = 0 ↔ BK s = true):=by
 unfold AE at h;constructor
 ·intro hk;cases hw:BK s with
  | true => rfl
  | false =>
   rw [hw,Bool.false_or] at h;obtain ⟨h1,h2,_⟩:=(Ao.leg_iff _).1 h;omega
 ·intro hw;unfold BK at hw;exact (of_decide_eq_true hw).1
theorem M1 {s:Ao} (hw:BK s = true) {l:Int} (hl:0≤l):Au (Ak s) l = l:=by
 rw [DB hw];unfold Au Ey;dsimp only;split
 ·omega
 ·rw [Int.ediv_one,Int.emod_one];omega
theorem IE (s:Ao) (w:World) (hs:OE s) (hr:(Ak s).gap = if s.k = 3 then s.t - s.q else s.t - 1) :
 Calls Tryz.prog 173 #[.agg #[.int .i64 s.k,.int .i64 s.q,.int .i64 s.t]] w fun e w' => e = .returned (.int .i64 (Ak s).gap)∧Gr w w':=by
 obtain ⟨h1,h2,h3,h4,h5⟩:=hs;rw [hr];replace hr:=zH hr;have hk0:(s.k == 0) = false:=by simpa using (by omega:¬ s.k = 0)
 by_cases hk:s.k = 3
 ·rw [if_pos hk];have hk':(s.k == 3) = true:=by simpa using hk
  clear hk;go_enter Tryz.func173,Tryz.ntmps173;go_wp2_with fail;go_ret;exact ⟨rfl,(by repeat (first | exact Gr.refl _ | apply Gr.alloc | apply Gr.drew | apply Gr.drewN | (refine Gr.setCell ?_ (by first | (simp;done) | (simp;omega)) _) | (refine Gr.trans ?_ (by assumption))))⟩
 ·rw [if_neg hk];have hk':(s.k == 3) = false:=by simpa using hk
  clear hk;go_enter Tryz.func173,Tryz.ntmps173;go_wp2_with fail;go_ret;exact ⟨rfl,(by repeat (first | exact Gr.refl _ | apply Gr.alloc | apply Gr.drew | apply Gr.drewN | (refine Gr.setCell ?_ (by first | (simp;done) | (simp;omega)) _) | (refine Gr.trans ?_ (by assumption))))⟩
theorem LX {s:Ao} (hw:BK s = false):(Ak s).gap = if s.k = 3 then s.t - s.q else s.t - 1:=by
 unfold Ak;rw [hw,if_neg (by decide)];split <;> rfl
theorem KE (s:Ao) (i:Int) (w:World) (hp:AE s = true) (hw:BK s = false) (i0:0≤i) (i1:i≤1099511627776) :
 Calls Tryz.prog 101 #[.agg #[.int .i64 s.k,.int .i64 s.q,.int .i64 s.t],.int .i64 i] w fun e w' => e = .returned (.bool (NB (Ak s) i))∧Gr w w':=by
 have hs:OE s:=by
  unfold AE at hp;rw [hw,Bool.false_or] at hp;exact (Ao.leg_iff _).1 hp
 have hgap:=fun w => IE s w hs (LX hw)
 obtain ⟨e1,e2,_⟩:=Fx hw;obtain ⟨g0,g1,q1,qt,t2⟩:=Be hp;obtain ⟨h1,h2,h3,h4,h5⟩:=hs;have hk0:(s.k == 0) = false:=by simpa using (by omega:¬ s.k = 0)
 unfold NB;rw [e1,e2] at *;generalize (Ak s).gap = gp at *;refine DT ?_ hgap hp hw e1 e2;clear hgap hp hw e1 e2;intro hgap hp hw e1 e2;by_cases hg:gp≤i
 ·rw [decide_eq_true hg,Bool.true_and];have n0:=Int.emod_nonneg (i - gp) (show s.t ≠ 0 by omega);have n1:=Int.emod_lt_of_pos (i - gp) (show 0 < s.t by omega);have ht0:(s.t == 0) = false:=by simpa using (by omega:¬ s.t = 0)
  have ht1:0 < s.t:=by omega
  have hd0:0≤i - gp:=by omega
  have hw1:IntKind.i64.wrap (i - gp) = i - gp:=by rw [IntKind.wrap_i64];omega
  have hw2:IntKind.i64.wrap (s.t - s.q) = s.t - s.q:=by rw [IntKind.wrap_i64];omega
  have hq:(i - gp).tmod s.t = (i - gp) % s.t:=Int.tmod_eq_emod_of_nonneg hd0;have hw3:IntKind.i64.wrap ((i - gp) % s.t) = (i - gp) % s.t:=by rw [IntKind.wrap_i64];omega
  go_enter Tryz.func101,Tryz.ntmps101;go_wp2_with fail;refine (hgap.out _).mono ?_;rintro e wa ⟨rfl,ga⟩;obtain ⟨ca,fa,sa⟩:=ga.cells;try simp only [Aa] at ca fa sa
  try simp only [zL] at ca fa sa
  try simp only [zD] at ca fa sa
  try simp only [zS] at ca fa sa
  have za0:w.heap.size < wa.heap.size:=by omega
  have ya0:w.heap.size≤wa.heap.size:=by omega
  have ka0:=fun o => ca (w.heap.size) o (by omega)
  have ja0:=fun o => fa (w.heap.size) o (by omega)
  go_wp2_with fail;have c0:wa.cell? ⟨w.heap.size,0,none⟩ = some (.int .i64 s.k):=by simp (maxDischargeDepth:=8) [go_sem, *]
  have c1:wa.cell? ⟨w.heap.size,1,none⟩ = some (.int .i64 s.q):=by simp (maxDischargeDepth:=8) [go_sem, *]
  have c2:wa.cell? ⟨w.heap.size,2,none⟩ = some (.int .i64 s.t):=by simp (maxDischargeDepth:=8) [go_sem, *]
  have q0:=AB.cell c0;have q1:=AB.cell c1;have q2:=AB.cell c2;refine Ap (by kernel_rfl) (by kernel_rfl) ?_;repeat (any_goals (first | go_big_quiet_step (first | (exact Calls.grows (hgap.out _))) | quiet_step (first | (exact Calls.grows (hgap.out _)))))
  refine wpQuiet_nil ?_;intro wb hwq;have gb:=AB.of hwq;clear hwq;obtain ⟨cb,fb,sb⟩:=gb.cells;try simp only [Aa] at cb fb sb
  try simp only [zL] at cb fb sb
  try simp only [zD] at cb fb sb
  try simp only [zS] at cb fb sb
  go_wp2_with fail;go_ret;exact ⟨rfl,(((Gr.refl w).alloc _).trans ga).trans gb⟩
 ·rw [decide_eq_false hg,Bool.false_and];have hg2:i < gp:=by omega
  go_enter Tryz.func101,Tryz.ntmps101;go_wp2_with fail;refine (hgap.out _).mono ?_;rintro e wa ⟨rfl,ga⟩;obtain ⟨ca,fa,sa⟩:=ga.cells;try simp only [Aa] at ca fa sa
  try simp only [zL] at ca fa sa
  try simp only [zD] at ca fa sa
  try simp only [zS] at ca fa sa
  have za0:w.heap.size < wa.heap.size:=by omega
  have ya0:w.heap.size≤wa.heap.size:=by omega
  have ka0:=fun o => ca (w.heap.size) o (by omega)
  have ja0:=fun o => fa (w.heap.size) o (by omega)
  go_wp2_with fail;go_ret;exact ⟨rfl,(by repeat (first | exact Gr.refl _ | apply Gr.alloc | apply Gr.drew | apply Gr.drewN | (refine Gr.setCell ?_ (by first | (simp;done) | (simp;omega)) _) | (refine Gr.trans ?_ (by assumption))))⟩
theorem Jf (s:Ao) (l:Int) (w:World) (hp:AE s = true) (hl:A2 l) :
 Calls Tryz.prog 176 #[.agg #[.int .i64 s.k,.int .i64 s.q,.int .i64 s.t],.int .i64 l] w fun e w' => e = .returned (.int .i64 (Au (Ak s) l))∧Gr w w':=by
 have l1:=hl.1;have l2:=hl.2;cases hw:BK s with
 | true =>
  have hk:(s.k == 0) = true:=by simpa using (GJ hp).2 hw
  rw [M1 hw l1];replace hw:=zH hw;replace hp:=zH hp;go_enter Tryz.func176,Tryz.ntmps176;go_wp2_with fail;go_ret;exact ⟨rfl,(by repeat (first | exact Gr.refl _ | apply Gr.alloc | apply Gr.drew | apply Gr.drewN | (refine Gr.setCell ?_ (by first | (simp;done) | (simp;omega)) _) | (refine Gr.trans ?_ (by assumption))))⟩
 | false =>
  have hk:(s.k == 0) = false:=by
   have:¬ s.k = 0:=fun e => by have:=(GJ hp).1 e;rw [hw] at this;cases this
   simpa using this
  have hat:=fun i w i0 i1 => KE s i w hp hw i0 i1
  obtain ⟨e1,e2,_⟩:=Fx hw;have hro:=Be hp;have hr:=hro;obtain ⟨g0,g1,q1,qt,t2⟩:=hr;have hst:=fun i:Int => Fz (r:=Ak s) (i:=i) hro
  have hgb:=fun i (h0:0≤i) => Dy hro h0
  have hgn:=fun i => Bx hro i
  have hz:Au (Ak s) 0 = 0:=by have:=hgb 0 (by omega);have:=hgn 0;omega
  have hcu:=fun p hp0 hp1 => O1 (l:=l) (p:=p) hro hp0 hp1
  simp only [e1,e2] at hcu g1 q1 qt t2;obtain ⟨G,hG⟩:=zE (Au (Ak s));simp only [← hG] at hcu hst hgb hgn hz ⊢;generalize (Ak s).gap = gp at *;refine Br ?_ hG hcu hst hat hgb hgn hz hp;clear hG hcu hst hat hgb hgn hz hp;intro hG hcu hst hat hgb hgn hz hp;refine B0 ?_ hw e1 e2 hro;clear hw e1 e2 hro;intro hw e1 e2 hro;obtain ⟨n0,m,hm0,hm1,hn0,hn1,hGl,hcase⟩:∃ n0 m:Int,0≤m∧m≤1099511627776∧0≤n0∧n0 + m≤2199023255552∧G l = n0 + G m∧((4 * s.t < l∧n0 = (l - 3 * s.t) / s.t * s.q∧m = l - (l - 3 * s.t) / s.t * s.t) ∨ (¬ 4 * s.t < l∧n0 = 0∧m = l)):=by
   by_cases h4:4 * s.t < l
   ·have e3:=Int.mul_ediv_add_emod (l - 3 * s.t) s.t;have e4:=Int.emod_nonneg (l - 3 * s.t) (show s.t ≠ 0 by omega);have e5:=Int.emod_lt_of_pos (l - 3 * s.t) (show 0 < s.t by omega);have e6:=Int.ediv_nonneg (show 0≤l - 3 * s.t by omega) (show 0≤s.t by omega);have e7:=hcu.out _ e6;generalize (l - 3 * s.t) / s.t = x at *;have e8:=Int.mul_comm s.t x;have e9:=Int.mul_le_mul_of_nonneg_left qt e6;have e10:=Int.mul_nonneg e6 (show 0≤s.q by omega);exact ⟨x * s.q,l - x * s.t,by omega,by omega,e10,by omega,e7 (by omega),.inl ⟨h4,rfl,rfl⟩⟩
   ·exact ⟨0,l,by omega,by omega,by omega,by omega,by omega,.inr ⟨h4,rfl,rfl⟩⟩
  rw [hGl];replace hGl:=zH hGl;rcases hcase with ⟨h4,hn,hm⟩ | ⟨h4,hn,hm⟩
  ·obtain ⟨a1,a2,a3⟩:=A4 (l:=l - 3 * s.t) (q:=s.q) (by omega) (by omega) (show 1≤s.t by omega) qt;obtain ⟨b1,b2,b3⟩:=A4 (l:=l - 3 * s.t) (q:=s.t) (by omega) (by omega) (show 1≤s.t by omega) (Int.le_refl _);go_enter Tryz.func176,Tryz.ntmps176;go_wp2_with fail;go_loopw [7,5] (fun iv nv wr => ∃ k:Nat,(k:Int)≤m∧iv = .int .i64 k∧nv = .int .i64 (n0 + G k)∧Gr (w.alloc (.cells #[.int .i64 s.k,.int .i64 s.q,.int .i64 s.t] 29)) wr) (fun iv _ _ => m.toNat - (intOf iv).toNat);case atStart => exact ⟨0,by omega,rfl,by have hz0:=hz.out;rw [hn,show ((0:Nat):Int) = 0 from rfl,hz0];go_num,Gr.refl _⟩
   case round =>
    obtain ⟨k,hk2,rfl,rfl,hg⟩:=hrel;have gall:Gr w wr:=((Gr.refl w).alloc _).trans hg;obtain ⟨cg,fg,sg⟩:=hg.cells;simp only [zL] at cg fg sg;have k1:=fun o => cg w.heap.size o (by omega)
    clear cg fg;have b4:=hgn.out k;have b5:=hgb.out k (by omega);by_cases hlt:(k:Int) < m
    ·have hlt2:(k:Int) < l - (l - 3 * s.t) / s.t * s.t:=by omega
     have hs:=hst.out k;have hca:=fun w => hat.out k w (by omega) (by omega)
     obtain ⟨b,hb⟩:∃ b,b = NB (Ak s) (k:Int):=⟨_,rfl⟩
     rw [← hb] at hs hca;replace hb:=zH hb;replace hca:=zH hca;cases b with
     | true =>
      rw [if_pos rfl] at hs;replace hs:=zH hs;go_wp2_with fail;refine (hca.out _).mono ?_;rintro e w2 ⟨rfl,g2⟩;go_wp2_with fail;go_roundw;case rel => exact ⟨k + 1,by omega,by go_num,by have h9:=hs.out;rw [show ((k + 1:Nat):Int) = (k:Int) + 1 by omega];congr 1;omega,hg.trans g2⟩
      case measure => simp [intOf];omega
     | false =>
      rw [if_neg (by decide)] at hs;replace hs:=zH hs;go_wp2_with fail;refine (hca.out _).mono ?_;rintro e w2 ⟨rfl,g2⟩;go_wp2_with fail;go_roundw;case rel => exact ⟨k + 1,by omega,by go_num,by have h9:=hs.out;rw [show ((k + 1:Nat):Int) = (k:Int) + 1 by omega];congr 1;omega,hg.trans g2⟩
      case measure => simp [intOf];omega
    ·have hlt2:l - (l - 3 * s.t) / s.t * s.t≤(k:Int):=by omega
     have hkm:(k:Int) = m:=by omega
     rw [hkm];rw [hkm] at b4 b5 hlt2;replace hkm:=zH hkm;go_wp2_with fail;go_ret;exact ⟨rfl,gall⟩
  ·go_enter Tryz.func176,Tryz.ntmps176;go_wp2_with fail;go_loopw [7,5] (fun iv nv wr => ∃ k:Nat,(k:Int)≤m∧iv = .int .i64 k∧nv = .int .i64 (n0 + G k)∧Gr (w.alloc (.cells #[.int .i64 s.k,.int .i64 s.q,.int .i64 s.t] 29)) wr) (fun iv _ _ => m.toNat - (intOf iv).toNat);case atStart => exact ⟨0,by omega,rfl,by have hz0:=hz.out;rw [hn,show ((0:Nat):Int) = 0 from rfl,hz0];go_num,Gr.refl _⟩
   case round =>
    obtain ⟨k,hk2,rfl,rfl,hg⟩:=hrel;have gall:Gr w wr:=((Gr.refl w).alloc _).trans hg;obtain ⟨cg,fg,sg⟩:=hg.cells;simp only [zL] at cg fg sg;have k1:=fun o => cg w.heap.size o (by omega)
    clear cg fg;have b4:=hgn.out k;have b5:=hgb.out k (by omega);by_cases hlt:(k:Int) < m
    ·have hlt2:(k:Int) < l:=by omega
     have hs:=hst.out k;have hca:=fun w => hat.out k w (by omega) (by omega)
     obtain ⟨b,hb⟩:∃ b,b = NB (Ak s) (k:Int):=⟨_,rfl⟩
     rw [← hb] at hs hca;replace hb:=zH hb;replace hca:=zH hca;cases b with
     | true =>
      rw [if_pos rfl] at hs;replace hs:=zH hs;go_wp2_with fail;refine (hca.out _).mono ?_;rintro e w2 ⟨rfl,g2⟩;go_wp2_with fail;go_roundw;case rel => exact ⟨k + 1,by omega,by go_num,by have h9:=hs.out;rw [show ((k + 1:Nat):Int) = (k:Int) + 1 by omega];congr 1;omega,hg.trans g2⟩
      case measure => simp [intOf];omega
     | false =>
      rw [if_neg (by decide)] at hs;replace hs:=zH hs;go_wp2_with fail;refine (hca.out _).mono ?_;rintro e w2 ⟨rfl,g2⟩;go_wp2_with fail;go_roundw;case rel => exact ⟨k + 1,by omega,by go_num,by have h9:=hs.out;rw [show ((k + 1:Nat):Int) = (k:Int) + 1 by omega];congr 1;omega,hg.trans g2⟩
      case measure => simp [intOf];omega
    ·have hlt2:l≤(k:Int):=by omega
     have hkm:(k:Int) = m:=by omega
     rw [hkm];rw [hkm] at b4 b5 hlt2;replace hkm:=zH hkm;go_wp2_with fail;go_ret;exact ⟨rfl,gall⟩
theorem DI (n:Int) (w:World) (h0:0≤n) (h1:n≤9223372036854775807):Calls Tryz.prog 182 #[.int .i64 n] w (Jw n 4 4 w):=by
 have ew:IntKind.u64.wrap n = n:=by rw [IntKind.wrap_u64];omega
 have hb:=fun w' => O4 n w' h0 (by omega)
 replace hb:=zH hb;go_enter Tryz.func182,Tryz.ntmps182;go_wp2_with fail;refine (hb.out _).mono ?_;rintro e w1 ⟨rfl,hr,g⟩;replace hr:=zH hr;go_wp2_with fail;go_ret;exact ⟨B7 n,_,4,rfl,ET n,EU h0 (by omega),Nat.le_refl _,Nat.le_refl _,hr.out,fun h => (by cases h),⟨Nat.le_refl _,by unfold maxLen;decide⟩,g⟩
theorem HN (s:Ao) (i:Int) (w:World) (hp:AE s = true) (i0:0≤i) (i1:i≤1099511627776) :
 Calls Tryz.prog 101 #[.agg #[.int .i64 s.k,.int .i64 s.q,.int .i64 s.t],.int .i64 i] w fun e w' => e = .returned (.bool (NB (Ak s) i))∧Gr w w':=by
 cases hw:BK s with
 | false => exact KE s i w hp hw i0 i1
 | true =>
  have hk:(s.k == 0) = true:=by simpa using (GJ hp).2 hw
  have ha:NB (Ak s) i = true:=by
   rw [DB hw];unfold NB;dsimp only;rw [decide_eq_true i0,decide_eq_true (by omega)];rfl
  rw [ha];refine AZ ?_ hw hp ha;clear hw hp ha;intro hw hp ha;go_enter Tryz.func101,Tryz.ntmps101;go_wp2_with fail;go_ret;exact ⟨rfl,(by repeat (first | exact Gr.refl _ | apply Gr.alloc | apply Gr.drew | apply Gr.drewN | (refine Gr.setCell ?_ (by first | (simp;done) | (simp;omega)) _) | (refine Gr.trans ?_ (by assumption))))⟩
theorem JI (s:Ao) (w:World) (hp:AE s = true) :
 Calls Tryz.prog 178 #[.agg #[.int .i64 s.k,.int .i64 s.q,.int .i64 s.t]] w fun e w' => e = .returned (.tuple #[.int .i64 (Ak s).q,.int .i64 (Ak s).t,.int .i64 (DG (Ak s))])∧Gr w w':=by
 cases hw:BK s with
 | true =>
  have hk:(s.k == 0) = true:=by simpa using (GJ hp).2 hw
  rw [DB hw];replace hw:=zH hw;replace hp:=zH hp;go_enter Tryz.func178,Tryz.ntmps178;go_wp2_with fail;refine bodyPost_ret (v:=.tuple #[.int .i64 1,.int .i64 1,.int .i64 0]) (by simp [results,Tryz.results178,go_sem]) rfl ⟨rfl,?_⟩;repeat (first | exact Gr.refl _ | apply Gr.alloc | apply Gr.drew | apply Gr.drewN | (refine Gr.setCell ?_ (by simp) _) | (refine Gr.trans ?_ (by assumption)))
 | false =>
  have hs:OE s:=by
   unfold AE at hp;rw [hw,Bool.false_or] at hp;exact (Ao.leg_iff _).1 hp
  have hgap:=fun w => IE s w hs (LX hw)
  obtain ⟨e1,e2,_⟩:=Fx hw;obtain ⟨g0,g1,q1,qt,t2⟩:=Be hp;obtain ⟨h1,h2,h3,h4,h5⟩:=hs;have hk0:(s.k == 0) = false:=by simpa using (by omega:¬ s.k = 0)
  unfold DG;rw [e1,e2] at *;generalize (Ak s).gap = gp at *;have w1:IntKind.i64.wrap (gp + s.t) = gp + s.t:=by rw [IntKind.wrap_i64];omega
  have w2:IntKind.i64.wrap (gp + s.t - s.q) = gp + s.t - s.q:=by rw [IntKind.wrap_i64];omega
  refine DT ?_ hgap hp hw e1 e2;clear hgap hp hw e1 e2;intro hgap hp hw e1 e2;obtain ⟨W,hW⟩:=zE (w.alloc (.cells #[.int .i64 s.k,.int .i64 s.q,.int .i64 s.t] 29));have gW:Gr w W:=by rw [hW];exact (Gr.refl w).alloc _
  have hB:Ag W w.heap.size #[.int .i64 s.k,.int .i64 s.q,.int .i64 s.t] 29:=by rw [hW];exact Ag.new w _ _
  obtain ⟨b0,b1,b2⟩:=hB.c3;replace hW:=zH hW;replace hB:=zH hB;go_enter Tryz.func178,Tryz.ntmps178;go_upto_region 1 with fail
  rw [← hW.out];go_upto_region 3 with fail
  go_region_held3 (fun w' => w'.cell? ⟨w.heap.size,0,none⟩ = some (.int .i64 s.k)∧w'.cell? ⟨w.heap.size,1,none⟩ = some (.int .i64 s.q)∧w'.cell? ⟨w.heap.size,2,none⟩ = some (.int .i64 s.t)) (simp (maxDischargeDepth:=8) [go_sem, *])
   (first
    | (go_at_call 173;(with_reducible refine (hgap.out _).mono ?_);rintro e wx ⟨rfl,gx⟩;have gq:Gr W wx:=((Gr.refl W).drew).trans gx;have hBx:=hB.out.gr gq;obtain ⟨x0,x1,x2⟩:=hBx.c3;replace hBx:=zH hBx)
    | fail)
  go_wp2_with fail;refine bodyPost_ret (v:=.tuple #[.int .i64 s.q,.int .i64 s.t,.int .i64 (gp + s.t - s.q)]) (by simp [results,Tryz.results178,go_sem]) rfl ⟨rfl,gW.trans gq⟩
theorem MQ {s:Ao} {p:Int × Int} {more:Int} (hp:AE s = true):BU s p more = (decide (p.1 * (Ak s).t < p.2 * (Ak s).q) && decide ((p.1 * 4096 + p.2 * more) * (Ak s).t≤p.2 * ((Ak s).q * (4096 - DG (Ak s))))):=by
 unfold BU;congr 1
 ·rw [decide_eq_decide];cases hw:BK s with
  | true =>
   rw [EJ p hp hw,DB hw,Cn];dsimp only;omega
  | false =>
   rw [GI p hp hw];obtain ⟨e1,e2,_⟩:=Fx hw;rw [e1,e2,Cn]
 ·rw [decide_eq_decide,EA]
theorem Ho (s:Ao) (p:Int × Int) (more:Int) (w:World) (hp:AE s = true) (hsh:Nz p) (m0:0≤more) (m1:more≤4096) :
 Calls Tryz.prog 106 #[.agg #[.int .i64 s.k,.int .i64 s.q,.int .i64 s.t],.agg #[.int .u64 (AV p.1),.int .u64 (AR p.1),.int .u64 (AV p.2),.int .u64 (AR p.2)],.int .i64 more] w fun e w' => e = .returned (.bool (BU s p more))∧Gr w w':=by
 have hsl:=fun w' => JI s w' hp
 obtain ⟨g0,g1,q1,qt,t2⟩:=Be hp;rw [MQ hp];have hd0:0≤DG (Ak s)∧DG (Ak s)≤510:=by unfold DG;omega
 generalize hq:(Ak s).q = q at *;generalize ht:(Ak s).t = t at *;generalize hdd:DG (Ak s) = dd at *;obtain ⟨dd0,dd1⟩:=hd0;have hn1:BC p.1:=⟨hsh.1,by have:=hsh.2.1;omega⟩
 have hn2:BC p.2:=⟨by have:=hsh.2.2.1;omega,by have:=hsh.2.2.2;omega⟩
 have qb:0≤q * (4096 - dd)∧q * (4096 - dd)≤256 * 4096:=Cw (by omega) (by omega) (by omega) (by omega);have w1:IntKind.i64.wrap (4096 - dd) = 4096 - dd:=by rw [IntKind.wrap_i64];omega
 have w2:IntKind.i64.wrap (q * (4096 - dd)) = q * (4096 - dd):=by rw [IntKind.wrap_i64];omega
 have tl:¬ 4096 - dd < 0:=by omega
 have tlb:decide (4096 - dd < 0) = false:=decide_eq_false tl;obtain ⟨b1,hb1⟩:∃ x,x = decide (p.1 * t < p.2 * q):=⟨_,rfl⟩
 obtain ⟨b2,hb2⟩:∃ x,x = decide (p.2 * (q * (4096 - dd)) < (p.1 * 4096 + p.2 * more) * t):=⟨_,rfl⟩
 have hb3:decide ((p.1 * 4096 + p.2 * more) * t≤p.2 * (q * (4096 - dd))) = !b2:=by
  rw [hb2];by_cases hx:p.2 * (q * (4096 - dd)) < (p.1 * 4096 + p.2 * more) * t
  ·rw [decide_eq_true hx,decide_eq_false (by omega)];rfl
  ·rw [decide_eq_false hx,decide_eq_true (by omega)];rfl
 rw [← hb1,hb3];refine AZ ?_ hb1 hb2 hb3;clear hb1 hb2 hb3;intro hb1 hb2 hb3;obtain ⟨W,hW⟩:=zE ((w.alloc (.cells #[.int .i64 s.k,.int .i64 s.q,.int .i64 s.t] 29)).alloc (.cells #[.int .u64 (AV p.1),.int .u64 (AR p.1),.int .u64 (AV p.2),.int .u64 (AR p.2)] 195));have gW:Gr w W:=by rw [hW];exact ((Gr.refl w).alloc _).alloc _
 have hB:Ag W w.heap.size #[.int .i64 s.k,.int .i64 s.q,.int .i64 s.t] 29:=by rw [hW];exact (Ag.new w _ _).alloc _
 have hP:Ag W (w.heap.size + 1) #[.int .u64 (AV p.1),.int .u64 (AR p.1),.int .u64 (AV p.2),.int .u64 (AR p.2)] 195:=by
  rw [hW];exact Ag.n1
 obtain ⟨b0,b1,b2⟩:=hB.c3;refine Br ?_ hW hB hP hsl hp hq ht hdd;clear hW hB hP hsl hp hq ht hdd;intro hW hB hP hsl hp hq ht hdd;refine AZ ?_ hsh hn1 hn2;clear hsh hn1 hn2;intro hsh hn1 hn2;go_enter Tryz.func106,Tryz.ntmps106;go_upto_region 1 with fail
 rw [← hW.out];go_wp2_with fail;refine (hsl.out W).mono ?_;rintro e w0 ⟨rfl,gs⟩;clear b0 b1 b2;have hP0:=hP.out.gr gs;obtain ⟨p0,p1,p2,p3⟩:=hP0.c4;replace hP0:=zH hP0;go_upto_region 2 with fail
 go_region_held3 (fun w' => w'.cell? ⟨w.heap.size + 1,0,none⟩ = some (.int .u64 (AV p.1))∧w'.cell? ⟨w.heap.size + 1,1,none⟩ = some (.int .u64 (AR p.1))∧w'.cell? ⟨w.heap.size + 1,2,none⟩ = some (.int .u64 (AV p.2))∧w'.cell? ⟨w.heap.size + 1,3,none⟩ = some (.int .u64 (AR p.2))) (simp (maxDischargeDepth:=8) [go_sem, *])
  (first
   | (go_at_call 179;(with_reducible refine (Fw p.1 _ hn1.out).mono ?_);rintro e wa ⟨dn,an,cn,rfl,vn,iN,ln,mn,rn,-,-,gn⟩;have gan:Gr w0 wa:=((Gr.refl w0).drew).trans gn;have hPa:=hP0.out.gr gan;obtain ⟨q0,q1,q2,q3⟩:=hPa.c4;refine B0 ?_ hPa vn iN rn;clear hPa vn iN rn;intro hPa vn iN rn)
   | (go_at_call 179;(with_reducible refine (Fw p.2 _ hn2.out).mono ?_);rintro e wb ⟨dm,am,cm,rfl,vm,im,lm,mm,rm,-,-,gm⟩;have hPb:=hPa.out.gr gm;obtain ⟨o0,o1,o2,o3⟩:=hPb.c4;replace hPb:=zH hPb;have rn2:=rn.out.gr gm;clear rn;have rn:=rn2;clear rn2;refine B0 ?_ rn vm im rm;clear rn vm im rm;intro rn vm im rm)
   | fail)
 clear p0 p1 p2 p3 q0 q1 q2 q3 o0 o1 o2 o3;have gAb:=((gW.trans gs).trans gan).trans gm;go_wp2_with fail;refine (DI (t) wb (by omega) (by omega)).mono ?_;rintro e w1 ⟨d1,a1,c1,rfl,v1,i1,l1,m1,r1,-,-,g1⟩;refine AZ ?_ v1 i1 r1;clear v1 i1 r1;intro v1 i1 r1;go_wp2_with fail;refine (Cz an a1 dn d1 cn c1 w1 (rn.out.gr g1) r1.out iN.out i1.out (by omega) (by omega) (by omega)).mono ?_;rintro e w2 ⟨d2,a2,c2,rfl,v2,i2,l2,m2,r2,-,-,g2⟩;refine AZ ?_ v2 i2 r2;clear v2 i2 r2;intro v2 i2 r2;go_wp2_with fail;refine (DI (q) w2 (by omega) (by omega)).mono ?_;rintro e w3 ⟨d3,a3,c3,rfl,v3,i3,l3,m3,r3,-,-,g3⟩;refine AZ ?_ v3 i3 r3;clear v3 i3 r3;intro v3 i3 r3;go_wp2_with fail;refine (Cz am a3 dm d3 cm c3 w3 (rm.out.gr ((g1.trans g2).trans g3)) r3.out im.out i3.out (by omega) (by omega) (by omega)).mono ?_;rintro e w4 ⟨d4,a4,c4,rfl,v4,i4,l4,m4,r4,-,-,g4⟩;refine AZ ?_ v4 i4 r4;clear v4 i4 r4;intro v4 i4 r4;have hl1:=IU a2 a4 d2 d4 c2 c4 w4 (r2.out.gr (g3.trans g4)) r4.out i2.out i4.out (by omega) (by omega);rw [v2.out,v4.out,vn.out,vm.out,v1.out,v3.out,← hb1.out] at hl1;replace hl1:=zH hl1;cases hbb:b1 with
 | false =>
  rw [hbb] at hl1;replace hbb:=zH hbb;go_wp2_with fail;refine hl1.out.mono ?_;rintro e w5 ⟨rfl,hw5⟩;subst hw5;go_wp2_with fail;go_ret;exact ⟨by rw [hbb.out,Bool.false_and];rfl,gAb.trans (((g1.trans g2).trans g3).trans g4)⟩
 | true =>
  rw [hbb] at hl1;replace hbb:=zH hbb;go_wp2_with fail;refine hl1.out.mono ?_;rintro e w5 ⟨rfl,hw5⟩;subst hw5;go_wp2_with fail;refine (DI (4096) w4 (by omega) (by omega)).mono ?_;rintro e w6 ⟨d6,a6,c6,rfl,v6,i6,l6,m6,r6,-,-,g6⟩;refine AZ ?_ v6 i6 r6;clear v6 i6 r6;intro v6 i6 r6;go_wp2_with fail;refine (Cz an a6 dn d6 cn c6 w6 (rn.out.gr ((((g1.trans g2).trans g3).trans g4).trans g6)) r6.out iN.out i6.out (by omega) (by omega) (by omega)).mono ?_;rintro e w7 ⟨d7,a7,c7,rfl,v7,i7,l7,m7,r7,-,-,g7⟩;refine AZ ?_ v7 i7 r7;clear v7 i7 r7;intro v7 i7 r7;go_wp2_with fail;refine (DI (more) w7 (by omega) (by omega)).mono ?_;rintro e w8 ⟨d8,a8,c8,rfl,v8,i8,l8,m8,r8,-,-,g8⟩;refine AZ ?_ v8 i8 r8;clear v8 i8 r8;intro v8 i8 r8;go_wp2_with fail;refine (Cz am a8 dm d8 cm c8 w8 (rm.out.gr ((((((g1.trans g2).trans g3).trans g4).trans g6).trans g7).trans g8)) r8.out im.out i8.out (by omega) (by omega) (by omega)).mono ?_;rintro e w9 ⟨d9,a9,c9,rfl,v9,i9,l9,m9,r9,-,-,g9⟩;refine AZ ?_ v9 i9 r9;clear v9 i9 r9;intro v9 i9 r9;go_wp2_with fail;refine (F7 a7 a9 d7 d9 c7 c9 w9 (r7.out.gr (g8.trans g9)) r9.out i7.out i9.out (by omega) (by omega)).mono ?_;rintro e w10 ⟨d10,a10,c10,rfl,v10,i10,l10,m10,r10,-,-,g10⟩;refine AZ ?_ v10 i10 r10;clear v10 i10 r10;intro v10 i10 r10;go_wp2_with fail;refine (DI (q * (4096 - dd)) w10 (by omega) (by omega)).mono ?_;rintro e w11 ⟨d11,a11,c11,rfl,v11,i11,l11,m11,r11,-,-,g11⟩;refine AZ ?_ v11 i11 r11;clear v11 i11 r11;intro v11 i11 r11;go_wp2_with fail;refine (Cz am a11 dm d11 cm c11 w11 (rm.out.gr (((((((((g1.trans g2).trans g3).trans g4).trans g6).trans g7).trans g8).trans g9).trans g10).trans g11)) r11.out im.out i11.out (by omega) (by omega) (by omega)).mono ?_;rintro e w12 ⟨d12,a12,c12,rfl,v12,i12,l12,m12,r12,-,-,g12⟩;refine AZ ?_ v12 i12 r12;clear v12 i12 r12;intro v12 i12 r12;go_wp2_with fail;refine (DI (t) w12 (by omega) (by omega)).mono ?_;rintro e w13 ⟨d13,a13,c13,rfl,v13,i13,l13,m13,r13,-,-,g13⟩;refine AZ ?_ v13 i13 r13;clear v13 i13 r13;intro v13 i13 r13;go_wp2_with fail;refine (Cz a10 a13 d10 d13 c10 c13 w13 (r10.out.gr ((g11.trans g12).trans g13)) r13.out i10.out i13.out (by omega) (by omega) (by omega)).mono ?_;rintro e w14 ⟨d14,a14,c14,rfl,v14,i14,l14,m14,r14,-,-,g14⟩;refine AZ ?_ v14 i14 r14;clear v14 i14 r14;intro v14 i14 r14;have hl2:=IU a12 a14 d12 d14 c12 c14 w14 (r12.out.gr (g13.trans g14)) r14.out i12.out i14.out (by omega) (by omega);rw [v12.out,v14.out,vm.out,v11.out,v10.out,v13.out,v7.out,v9.out,vn.out,vm.out,v6.out,v8.out,← hb2.out] at hl2;replace hl2:=zH hl2;go_wp2_with fail;refine hl2.out.mono ?_;rintro e w15 ⟨rfl,hw15⟩;subst hw15;go_wp2_with fail;go_ret;exact ⟨by rw [hbb.out,Bool.true_and];rfl,gAb.trans ((((((((((((g1.trans g2).trans g3).trans g4).trans g6).trans g7).trans g8).trans g9).trans g10).trans g11).trans g12).trans g13).trans g14)⟩
def RkP (o:Option Nat) (w:World) (e:Ending) (w':World):Prop:=∃ c:Int,e = .returned (.int .i64 c)∧(c = 0 ↔ o = none)∧Gr w w'
theorem Ki {s:Ao} {l:List Ao} (hp:AE s = true) (hs:Bm l = none):Am s l = none ↔ (BU s (Ah l) (2 * Bl l) = true∧∀ n:Nat,1≤n→n≤4096→Bc l n≤Au (Ak s) n):=by
 constructor
 ·intro h;obtain ⟨_,_,h3,h4⟩:=Df h;exact ⟨h3,fun n _ hn => IV hp (Ce hs).1 h4 n hn⟩
 ·rintro ⟨h3,h4⟩;unfold Am;rw [if_neg (by rw [hp];decide),hs];dsimp only;rw [if_pos];unfold DM;rw [h3,Bool.true_and];unfold Cr;rw [List.all_eq_true];intro x hx;obtain ⟨x1,x2⟩:=EK l 4096 x hx;have:=h4 x.toNat (by omega) (by omega);rw [show ((x.toNat:Nat):Int) = x by omega] at this;exact decide_eq_true this
theorem JU (s:Ao) (a:Option Addr) (l:List Ao) (c:Nat) (w:World) (hp:AE s = false) :
 Calls Tryz.prog 100 #[.agg #[.int .i64 s.k,.int .i64 s.q,.int .i64 s.t],.slice a l.length c] w fun e w' => e = .returned (.int .i64 10)∧Gr w w':=by
 obtain ⟨W,hW⟩:=zE (w.alloc (.cells #[.int .i64 s.k,.int .i64 s.q,.int .i64 s.t] 29));have gW:Gr w W:=by rw [hW];exact (Gr.refl w).alloc _
 have hB:Ag W (w.heap.size) #[.int .i64 s.k,.int .i64 s.q,.int .i64 s.t] 29:=by
  rw [hW];exact Ag.n0
 have hWz:W.heap.size = w.heap.size + 1:=by rw [hW];simp
 obtain ⟨b0,b1,b2⟩:=hB.c3;have hlg:=fun w' => B3 s w'
 rw [hp] at hlg;refine B0 ?_ hW hB hlg hp;clear hW hB hlg hp;intro hW hB hlg hp;go_enter Tryz.func100,Tryz.ntmps100;go_upto_region 1 with fail
 rw [← hW.out];go_wp2_with fail;refine (hlg.out W).mono ?_;rintro e w1 ⟨rfl,g1⟩;clear b0 b1 b2;go_wp2_with fail;go_ret;exact ⟨rfl,gW.trans g1⟩
theorem Ge (s:Ao) (a:Option Addr) (l:List Ao) (c:Nat) (w:World) (hp:AE s = true) (k:Int) (hk:k ≠ 0) (hsv:∀ w',Gr w w'→Calls Tryz.prog 171 #[.slice a l.length c] w' fun e w'' => e = .returned (.tuple #[C2,.int .i64 k])∧Gr w' w'') :
 Calls Tryz.prog 100 #[.agg #[.int .i64 s.k,.int .i64 s.q,.int .i64 s.t],.slice a l.length c] w fun e w' => e = .returned (.int .i64 k)∧Gr w w':=by
 obtain ⟨W,hW⟩:=zE (w.alloc (.cells #[.int .i64 s.k,.int .i64 s.q,.int .i64 s.t] 29));have gW:Gr w W:=by rw [hW];exact (Gr.refl w).alloc _
 have hB:Ag W (w.heap.size) #[.int .i64 s.k,.int .i64 s.q,.int .i64 s.t] 29:=by
  rw [hW];exact Ag.n0
 have hWz:W.heap.size = w.heap.size + 1:=by rw [hW];simp
 obtain ⟨b0,b1,b2⟩:=hB.c3;have hlg:=fun w' => B3 s w'
 rw [hp] at hlg;have tk:(k == 0) = false:=by simpa using hk
 refine Dn ?_ hW hB hlg hp hsv hk;clear hW hB hlg hp hsv hk;intro hW hB hlg hp hsv hk;go_enter Tryz.func100,Tryz.ntmps100;go_upto_region 1 with fail
 rw [← hW.out];go_wp2_with fail;refine (hlg.out W).mono ?_;rintro e w1 ⟨rfl,g1⟩;clear b0 b1 b2;go_wp2_with fail;refine (hsv.out w1 (gW.trans g1)).mono ?_;rintro e w2 ⟨rfl,g2⟩;go_wp2_with fail;go_ret;exact ⟨rfl,((gW.trans g1).trans g2).alloc _⟩
theorem JT (s:Ao) (a:Option Addr) (l:List Ao) (c:Nat) (w:World) (hl:AJ w a l) (hp:AE s = true) (hse:Bm l = none) :
 Calls Tryz.prog 100 #[.agg #[.int .i64 s.k,.int .i64 s.q,.int .i64 s.t],.slice a l.length c] w (RkP (Am s l) w):=by
 have hrun:=Ki hp hse;obtain ⟨K,hK⟩:=zE (Am s l);rw [← hK] at hrun ⊢;obtain ⟨hal,h8⟩:=Ce hse;have hrow:=Be hp;have hg0:Au (Ak s) 0 = 0:=by
  have h1:=Bx hrow 0;have h2:=Dy hrow (l:=0) (Int.le_refl _);omega
 replace hg0:=zH hg0;have hsh:=Ip hal h8;have hqb:=DX hal h8;obtain ⟨W,hW⟩:=zE (w.alloc (.cells #[.int .i64 s.k,.int .i64 s.q,.int .i64 s.t] 29));have gW:Gr w W:=by rw [hW];exact (Gr.refl w).alloc _
 have hB:Ag W (w.heap.size) #[.int .i64 s.k,.int .i64 s.q,.int .i64 s.t] 29:=by
  rw [hW];exact Ag.n0
 have hWz:W.heap.size = w.heap.size + 1:=by rw [hW];simp
 obtain ⟨b0,b1,b2⟩:=hB.c3;have hlg:=fun w' => B3 s w'
 rw [hp] at hlg;refine Br ?_ hW hB hlg hp hse hal hrow hsh;clear hW hB hlg hp hse hal hrow hsh;intro hW hB hlg hp hse hal hrow hsh;refine B0 ?_ hqb hl hrun hK;clear hqb hl hrun hK;intro hqb hl hrun hK;go_enter Tryz.func100,Tryz.ntmps100;go_upto_region 1 with fail
 rw [← hW.out];go_wp2_with fail;refine (hlg.out W).mono ?_;rintro e w1 ⟨rfl,g1⟩;clear b0 b1 b2;have hsv:=I8 a l c w1 (hl.out.gr (gW.trans g1)) hal.out h8;replace hsv:=zH hsv;go_wp2_with fail;refine hsv.out.mono ?_;rintro e w2 ⟨rfl,g2⟩;obtain ⟨pb,hpb⟩:=zE w2.heap.size;obtain ⟨w3,hw3⟩:=zE (w2.alloc (.cells #[.int .u64 (AV (Ah l).1),.int .u64 (AR (Ah l).1),.int .u64 (AV (Ah l).2),.int .u64 (AR (Ah l).2)] 195));have g3:Gr w2 w3:=by rw [hw3];exact (Gr.refl _).alloc _
 have hP3:Ag w3 pb #[.int .u64 (AV (Ah l).1),.int .u64 (AR (Ah l).1),.int .u64 (AV (Ah l).2),.int .u64 (AR (Ah l).2)] 195:=by rw [hw3,hpb];exact Ag.new _ _ _
 have gA3:=((gW.trans g1).trans g2).trans g3;have hB3:=((hB.out.gr g1).gr g2).gr g3;refine B0 ?_ hpb hw3 hP3 hB3;clear hpb hw3 hP3 hB3;intro hpb hw3 hP3 hB3;go_upto_region 4 with fail
 rw [← hpb.out,← hw3.out];go_wp2_with fail;go_loopw [7,25] (fun sv iv wr => ∃ k:Nat,k≤l.length∧sv = .int .i64 (Bl (l.take k))∧iv = .int .i64 k∧Gr w3 wr) (fun _ iv _ => l.length - (intOf iv).toNat);case atStart => exact ⟨0,Nat.zero_le _,rfl,rfl,Gr.refl _⟩
 case round =>
  obtain ⟨k,hk,rfl,rfl,hg⟩:=hrel;by_cases hlt:k < l.length
  ·obtain ⟨x,hx⟩:=Ac l k hlt;obtain ⟨ba,off,hag,hba2,d0,d1,d2⟩:=(hl.out.gr (gA3.trans hg)) k x hx;subst hag;have hs1:Bl (l.take (k + 1)) = Bl (l.take k) + x.q:=by unfold Bl;rw [Ae hx,A6]
   have hq1:=hqb.out k;have hq2:=hqb.out (k + 1);have hww:IntKind.i64.wrap (Bl (l.take k) + x.q) = Bl (l.take k) + x.q:=by rw [IntKind.wrap_i64] <;> omega
   replace hx:=zH hx;replace hs1:=zH hs1;go_wp2_with fail;go_roundw;case rel => exact ⟨k + 1,by omega,by rw [hs1.out],by go_num,hg.alloc _⟩
   case measure => simp [intOf];omega
  ·have hkl:k = l.length:=by omega
   have ti:¬ (k:Int) < l.length:=by omega
   have tib:decide ((k:Int) < l.length) = false:=decide_eq_false ti;have hsq:Bl (l.take k) = Bl l:=by rw [hkl,List.take_length]
   have hq1:=hqb.out l.length;rw [List.take_length] at hq1;have hww:IntKind.i64.wrap (2 * Bl (l.take k)) = 2 * Bl (l.take k):=by rw [IntKind.wrap_i64,hsq] <;> omega
   have hlc:=fun w' => Ho s (Ah l) (2 * Bl (l.take k)) w' hp.out hsh.out (by rw [hsq];omega) (by rw [hsq];omega)
   have hlq:BU s (Ah l) (2 * Bl (l.take k)) = BU s (Ah l) (2 * Bl l):=by rw [hsq]
   rw [hlq] at hlc;have hBx:=hB3.out.gr hg;have hPx:=hP3.out.gr hg;have gAx:=gA3.trans hg;obtain ⟨b0,b1,b2⟩:=hBx.c3;obtain ⟨p0,p1,p2,p3⟩:=hPx.c4;cases hlb:BU s (Ah l) (2 * Bl l) with
   | false =>
    rw [hlb] at hlc;refine Fm ?_ hlc hBx hPx hkl hsq hlb hlq;clear hlc hBx hPx hkl hsq hlb hlq;intro hlc hBx hPx hkl hsq hlb hlq;go_wp2_with fail;refine (hlc.out wr).mono ?_;rintro e w4 ⟨rfl,g4⟩;clear b0 b1 b2 p0 p1 p2 p3;have gA4:=gAx.trans g4;go_wp2_with fail;go_ret;exact ⟨12,rfl,⟨fun h => (by cases h),fun h => by have:=(hrun.out.1 h).1;rw [hlb.out] at this;cases this⟩,gA4⟩
   | true =>
    rw [hlb] at hlc;refine Fm ?_ hlc hBx hPx hkl hsq hlb hlq;clear hlc hBx hPx hkl hsq hlb hlq;intro hlc hBx hPx hkl hsq hlb hlq;go_wp2_with fail;refine (hlc.out wr).mono ?_;rintro e w4 ⟨rfl,g4⟩;clear b0 b1 b2 p0 p1 p2 p3;have gA4:=gAx.trans g4;have hB4:=hBx.out.gr g4;replace hB4:=zH hB4;go_wp2_with fail;go_loopw [10,11] (fun sv iv wr => ∃ n:Nat,1≤n∧n≤4097∧sv = .int .i64 (Au (Ak s) ((n:Int) - 1))∧iv = .int .i64 n∧(∀ j:Nat,1≤j→j < n→Bc l j≤Au (Ak s) j)∧Gr w4 wr) (fun _ iv _ => 4097 - (intOf iv).toNat);case atStart => exact ⟨1,by omega,by omega,by rw [show ((1:Nat):Int) - 1 = 0 by omega,hg0.out],rfl,(fun j h1 h2 => by omega),Gr.refl _⟩
    case round =>
     obtain ⟨n,n1,n2,rfl,rfl,hall,hg5⟩:=hrel;replace hall:=zH hall;obtain ⟨wo,rfl⟩:∃ wo:World,wo = wr:=⟨wr,rfl⟩
     by_cases hn:n≤4096
     ·have tn:(n:Int)≤4096:=by omega
      have tnb:decide ((n:Int)≤4096) = true:=decide_eq_true tn;have hwn:IntKind.i64.wrap ((n:Int) - 1) = (n:Int) - 1:=by rw [IntKind.wrap_i64] <;> omega
      have hst:=Fz hrow.out (i:=(n:Int) - 1);rw [show (n:Int) - 1 + 1 = n by omega] at hst;have hgb:=Bx hrow.out ((n:Int) - 1);have hgu:=Dy hrow.out (l:=(n:Int) - 1) (by omega);have hat:=HN s ((n:Int) - 1) wo hp.out (by omega) (by omega);have hB5:=hB4.out.gr hg5;obtain ⟨b0,b1,b2⟩:=hB5.c3;have gA5:=gA4.trans hg5;replace hB5:=zH hB5;cases ha:NB (Ak s) ((n:Int) - 1) with
      | true =>
       rw [ha] at hat hst;replace ha:=zH ha;replace hat:=zH hat;rw [if_pos rfl] at hst;have hw1:IntKind.i64.wrap (Au (Ak s) ((n:Int) - 1) + 1) = Au (Ak s) n:=by rw [hst,IntKind.wrap_i64] <;> omega
       replace hst:=zH hst;go_wp2_with fail;refine hat.out.mono ?_;rintro e w5 ⟨rfl,g5⟩;have hsv:=Et a l c n w5 (hl.out.gr (gA5.trans g5)) hal.out h8 ⟨by omega,by omega⟩;clear b0 b1 b2;by_cases tg:Au (Ak s) n < A0 (fun s => AX s (n:Int)) l
       ·have tgb:decide (Au (Ak s) n < A0 (fun s => AX s (n:Int)) l) = true:=decide_eq_true tg;replace hsv:=zH hsv;go_wp2_with fail;refine hsv.out.mono ?_;rintro e w6 ⟨rfl,g6⟩;go_wp2_with fail;go_ret;exact ⟨12,rfl,⟨fun h => (by cases h),fun h => by have h1:=(hrun.out.1 h).2 n n1 hn;unfold Bc at h1;omega⟩,(gA5.trans g5).trans g6⟩
       ·have tgb:decide (Au (Ak s) n < A0 (fun s => AX s (n:Int)) l) = false:=decide_eq_false tg;have hall2:∀ j:Nat,1≤j→j < n + 1→Bc l j≤Au (Ak s) j:=fun j j1 j2 => by
         by_cases hj:j < n
         ·exact hall.out j j1 hj
         ·obtain rfl:j = n:=by omega
          unfold Bc;omega
        replace hall2:=zH hall2;replace hsv:=zH hsv;go_wp2_with fail;refine hsv.out.mono ?_;rintro e w6 ⟨rfl,g6⟩;go_wp2_with fail;go_roundw;case rel => exact ⟨n + 1,by omega,by omega,by rw [show ((n + 1:Nat):Int) - 1 = n by omega],by go_num,hall2.out,(hg5.trans g5).trans g6⟩
        case measure => simp [intOf];omega
      | false =>
       rw [ha] at hat hst;replace ha:=zH ha;replace hat:=zH hat;rw [if_neg (by decide),Int.add_zero] at hst;replace hst:=zH hst;go_wp2_with fail;refine hat.out.mono ?_;rintro e w5 ⟨rfl,g5⟩;have hsv:=Et a l c n w5 (hl.out.gr (gA5.trans g5)) hal.out h8 ⟨by omega,by omega⟩;clear b0 b1 b2;by_cases tg:Au (Ak s) ((n:Int) - 1) < A0 (fun s => AX s (n:Int)) l
       ·have tgb:decide (Au (Ak s) ((n:Int) - 1) < A0 (fun s => AX s (n:Int)) l) = true:=decide_eq_true tg;replace hsv:=zH hsv;go_wp2_with fail;refine hsv.out.mono ?_;rintro e w6 ⟨rfl,g6⟩;go_wp2_with fail;go_ret;exact ⟨12,rfl,⟨fun h => (by cases h),fun h => by have h1:=(hrun.out.1 h).2 n n1 hn;unfold Bc at h1;rw [hst.out] at h1;omega⟩,(gA5.trans g5).trans g6⟩
       ·have tgb:decide (Au (Ak s) ((n:Int) - 1) < A0 (fun s => AX s (n:Int)) l) = false:=decide_eq_false tg;have hall2:∀ j:Nat,1≤j→j < n + 1→Bc l j≤Au (Ak s) j:=fun j j1 j2 => by
         by_cases hj:j < n
         ·exact hall.out j j1 hj
         ·obtain rfl:j = n:=by omega
          unfold Bc;rw [hst.out];omega
        replace hall2:=zH hall2;replace hsv:=zH hsv;go_wp2_with fail;refine hsv.out.mono ?_;rintro e w6 ⟨rfl,g6⟩;go_wp2_with fail;go_roundw;case rel => exact ⟨n + 1,by omega,by omega,by rw [show ((n + 1:Nat):Int) - 1 = n by omega];rw [hst.out],by go_num,hall2.out,(hg5.trans g5).trans g6⟩
        case measure => simp [intOf];omega
     ·have tn:¬ (n:Int)≤4096:=by omega
      have tnb:decide ((n:Int)≤4096) = false:=decide_eq_false tn;go_wp2_with fail;go_ret;exact ⟨0,rfl,⟨fun _ => hrun.out.2 ⟨hlb.out,fun j j1 j2 => hall.out j j1 (by omega)⟩,fun _ => rfl⟩,gA4.trans hg5⟩
theorem Gf (s:Ao) (a:Option Addr) (l:List Ao) (c:Nat) (w:World) (hl:AJ w a l) (hm:l.length≤maxLen) :
 Calls Tryz.prog 100 #[.agg #[.int .i64 s.k,.int .i64 s.q,.int .i64 s.t],.slice a l.length c] w (RkP (Am s l) w):=by
 cases hp:AE s with
 | false =>
  have hk:Am s l = some 9:=by unfold Am;rw [if_pos hp]
  rw [hk];exact (JU s a l c w hp).mono fun _ _ ⟨h1,h2⟩ => ⟨10,h1,⟨fun h => (by cases h),fun h => (by cases h)⟩,h2⟩
 | true =>
  cases hs:Bm l with
  | none => exact JT s a l c w hl hp hs
  | some g =>
   have hk:Am s l = some g:=by unfold Am;rw [if_neg (by rw [hp];decide),hs]
   rw [hk];unfold Bm at hs;split at hs
   ·rename_i h1;exact (Ge s a l c w hp 10 (by decide) (fun w' gw => JO a l c w' (hl.gr gw) hm h1)).mono fun _ _ ⟨h1,h2⟩ => ⟨10,h1,⟨fun h => (by cases h),fun h => (by cases h)⟩,h2⟩
   ·rename_i h1;split at hs
    ·rename_i h2;exact (Ge s a l c w hp 7 (by decide) (fun w' gw => HW a l c w' (hl.gr gw) hm (by simpa using h1) h2)).mono fun _ _ ⟨h1,h2⟩ => ⟨7,h1,⟨fun h => (by cases h),fun h => (by cases h)⟩,h2⟩
    ·cases hs
structure Nd where
 id:Int
 par:Int
 srv:Ao
 pol:Int
 tasks:List AA
abbrev Nd.cells (e:Nd) (a:Option Addr) (c:Nat):List Value:=[.int .i64 e.id,.int .i64 e.par,.int .i64 e.srv.k,.int .i64 e.srv.q,.int .i64 e.srv.t,.int .i64 e.pol,.slice a e.tasks.length c]
structure Ax where
 e:Nd
 a:Option Addr
 c:Nat
abbrev Ax.cells (x:Ax):List Value:=x.e.cells x.a x.c
theorem Ax.cells_len (x:Ax):x.cells.length = 7:=rfl
theorem Ax.cells_one (x:Ax):∀ u ∈ x.cells,u.oneCell' = true:=by
 intro u hu;simp at hu;rcases hu with rfl | rfl | rfl | rfl | rfl | rfl | rfl <;> rfl
def Ax.ok (K:Nat→Prop) (w:World) (x:Ax):Prop:=AC K 4 AA.cells w x.a x.e.tasks∧(x.a = none→x.c = 0)∧x.e.tasks.length≤x.c∧x.c≤maxLen∧x.e.tasks.length * 32≤140737488351232
theorem Ax.ok.grx {K:Nat→Prop} {T:List Nat} {w w':World} {x:Ax} (h:x.ok K w) (g:Aw T w w') (hT:∀ y,y ∈ T→¬ K y):x.ok K w':=⟨h.1.grx g hT,h.2⟩
theorem Ax.ok.mono {K K':Nat→Prop} {w:World} {x:Ax} (h:x.ok K w) (hk:∀ b,b < w.heap.size→K b→K' b):x.ok K' w:=⟨h.1.mono hk,h.2⟩
theorem Ax.ok.grown {K:Nat→Prop} {w w':World} {x:Ax} {row:Option Nat} (h:x.ok K w) (hg:w.grownBy w' row) (hne:∀ ad,x.a = some ad→x.e.tasks ≠ []→row ≠ some ad.block):x.ok K w':=⟨⟨h.1.1.grown hg hne,h.1.2⟩,h.2⟩
def El (K:Nat→Prop) (w:World) (a:Option Addr) (L:List Ax):Prop:=AC K 7 Ax.cells w a L∧∀ x ∈ L,x.ok K w
theorem El.grx {K:Nat→Prop} {T:List Nat} {w w':World} {a:Option Addr} {L:List Ax} (h:El K w a L) (g:Aw T w w') (hT:∀ y,y ∈ T→¬ K y):El K w' a L :=
 ⟨h.1.grx g hT,fun x hx => (h.2 x hx).grx g hT⟩
theorem El.mono {K K':Nat→Prop} {w:World} {a:Option Addr} {L:List Ax} (h:El K w a L) (hk:∀ b,b < w.heap.size→K b→K' b):El K' w a L:=⟨h.1.mono hk,fun x hx => (h.2 x hx).mono hk⟩
theorem El.nil (K:Nat→Prop) (w:World) (a:Option Addr):El K w a []:=⟨AC.nil _ _ _ _ _,fun _ h => by cases h⟩
theorem El.gr {K:Nat→Prop} {w w':World} {a:Option Addr} {L:List Ax} (h:El K w a L) (g:Gr w w'):El K w' a L:=h.grx (T:=[]) (g.x []) (fun _ h => by cases h)
theorem Ax.ok.gr {K:Nat→Prop} {w w':World} {x:Ax} (h:x.ok K w) (g:Gr w w'):x.ok K w':=h.grx (T:=[]) (g.x []) (fun _ h => by cases h)
theorem El.get {K:Nat→Prop} {w:World} {a:Option Addr} {L:List Ax} (h:El K w a L) {i:Nat} {x:Ax} (hx:L[i]? = some x) :
 ∃ b off,a = some ⟨b,off,none⟩∧b < w.heap.size∧K b∧w.cell? ⟨b,off + i * 7,none⟩ = some (.int .i64 x.e.id)∧w.cell? ⟨b,off + i * 7 + 1,none⟩ = some (.int .i64 x.e.par)∧w.cell? ⟨b,off + i * 7 + 2,none⟩ = some (.int .i64 x.e.srv.k)∧w.cell? ⟨b,off + i * 7 + 3,none⟩ = some (.int .i64 x.e.srv.q)∧w.cell? ⟨b,off + i * 7 + 4,none⟩ = some (.int .i64 x.e.srv.t)∧w.cell? ⟨b,off + i * 7 + 5,none⟩ = some (.int .i64 x.e.pol)∧w.cell? ⟨b,off + i * 7 + 6,none⟩ = some (.slice x.a x.e.tasks.length x.c):=by
 obtain ⟨b,off,ha,hb,hc⟩:=h.1.1 i x hx;exact ⟨b,off,ha,hb,h.1.2 _ ha (fun e => by rw [e] at hx;cases hx),hc 0 _ rfl,hc 1 _ rfl,hc 2 _ rfl,hc 3 _ rfl,hc 4 _ rfl,hc 5 _ rfl,hc 6 _ rfl⟩
structure Gh where
 par:Int
 srv:Ao
 till:Int
abbrev Gh.cells (g:Gh):List Value:=[.int .i64 g.par,.int .i64 g.srv.k,.int .i64 g.srv.q,.int .i64 g.srv.t,.int .i64 g.till]
theorem Gh.cells_len (g:Gh):g.cells.length = 5:=rfl
theorem Gh.cells_one (g:Gh):∀ u ∈ g.cells,u.oneCell' = true:=by
 intro u hu;simp at hu;rcases hu with rfl | rfl | rfl | rfl | rfl <;> rfl
theorem CF {K:Nat→Prop} {w:World} {a:Option Addr} {L:List Gh} (h:AC K 5 Gh.cells w a L) {i:Nat} {x:Gh} (hx:L[i]? = some x) :
 ∃ b off,a = some ⟨b,off,none⟩∧b < w.heap.size∧K b∧w.cell? ⟨b,off + i * 5,none⟩ = some (.int .i64 x.par)∧w.cell? ⟨b,off + i * 5 + 1,none⟩ = some (.int .i64 x.srv.k)∧w.cell? ⟨b,off + i * 5 + 2,none⟩ = some (.int .i64 x.srv.q)∧w.cell? ⟨b,off + i * 5 + 3,none⟩ = some (.int .i64 x.srv.t)∧w.cell? ⟨b,off + i * 5 + 4,none⟩ = some (.int .i64 x.till):=by
 obtain ⟨b,off,ha,hb,hc⟩:=h.1 i x hx;exact ⟨b,off,ha,hb,h.2 _ ha (fun e => by rw [e] at hx;cases hx),hc 0 _ rfl,hc 1 _ rfl,hc 2 _ rfl,hc 3 _ rfl,hc 4 _ rfl⟩
structure Ab where
 nodes:List Nd
 ghosts:List Gh
 last:Int
 now:Int
structure TM where
 N:List Ax
 an:Option Addr
 cn:Nat
 G:List Gh
 ag:Option Addr
 cg:Nat
 last:Int
 now:Int
abbrev TM.v (T:TM):Ab:=⟨T.N.map (·.e),T.G,T.last,T.now⟩
abbrev TM.row (T:TM):Array Value:=#[.slice T.an T.N.length T.cn,.slice T.ag T.G.length T.cg,.int .i64 T.last,.int .i64 T.now]
structure Av (K:Nat→Prop) (w:World) (T:TM):Prop where
 n:El K w T.an T.N
 nn:T.an = none→T.cn = 0
 g:AC K 5 Gh.cells w T.ag T.G
 gn:T.ag = none→T.cg = 0
 l1:T.N.length≤1000000
 l2:T.G.length≤1000000
theorem Av.grx {K:Nat→Prop} {S:List Nat} {w w':World} {T:TM} (h:Av K w T) (g:Aw S w w') (hT:∀ y,y ∈ S→¬ K y):Av K w' T:=⟨h.n.grx g hT,h.nn,h.g.grx g hT,h.gn,h.l1,h.l2⟩
theorem Av.gr {K:Nat→Prop} {w w':World} {T:TM} (h:Av K w T) (g:Gr w w'):Av K w' T:=h.grx (S:=[]) (g.x []) (fun _ h => by cases h)
theorem Av.mono {K K':Nat→Prop} {w:World} {T:TM} (h:Av K w T) (hk:∀ b,b < w.heap.size→K b→K' b):Av K' w T:=⟨h.n.mono hk,h.nn,h.g.mono hk,h.gn,h.l1,h.l2⟩
theorem Av.any {K:Nat→Prop} {w:World} {T:TM} (h:Av K w T):Av Any w T:=h.mono (fun _ _ _ => trivial)
theorem Av.none (K:Nat→Prop) (w:World) (l n:Int):Av K w ⟨[],.none,0,[],.none,0,l,n⟩:=⟨El.nil _ _ _,fun _ => rfl,AC.nil _ _ _ _ _,fun _ => rfl,by simp,by simp⟩
theorem CD {w:World} {base:Nat} {e:TypeId} {size:Nat} {v:Value} {n:Nat} {xs:List Value} {a:Option Addr} {m c:Nat} (h:w.ownsRow base e size v n xs) (hv:v = .slice a m c):n≤c∧c≤maxLen:=by
 obtain ⟨_,⟨h1,h2⟩ | ⟨g,cap,cur,h1,_,_,h2,h3,_⟩⟩:=h
 ·rw [hv] at h1;cases h1;exact ⟨by omega,Nat.zero_le _⟩
 ·rw [hv] at h1;cases h1;exact ⟨h2,h3⟩
theorem BE {w:World} {base:Nat} {e:TypeId} {size:Nat} {n m c:Nat} {xs:List Value} {a:Option Addr} {ad:Addr} (h:w.ownsRow base e size (.slice a m c) n xs) (ha:a = some ad) (o:Nat):w.frozen? ⟨ad.block,o,none⟩ = false:=by
 obtain ⟨_,hn | ⟨g,cap,cur,hv,_,hh,_⟩⟩:=h
 ·rw [ha] at hn;cases hn.1
 ·rw [ha] at hv;cases hv;simp [World.frozen?,hh]
def NewF {α:Type} (k:Nat) (enc:α→List Value) (e:TypeId) (l:List α) (w:World) (x:Ending) (w':World):Prop :=
 ∃ a c,x = .returned (.slice a l.length c)∧AC (fun b => w.heap.size≤b) k enc w' a l∧(a = none→c = 0)∧l.length≤c∧c≤maxLen∧Gr w w'∧(∀ ad,a = some ad→l ≠ []→∀ o,w'.frozen? ⟨ad.block,o,none⟩ = false)∧w'.ownsRow w.heap.size e k (.slice a l.length c) l.length (l.flatMap enc)
theorem Fh (a:Option Addr) (c:Nat) (l:List AA) (w:World) (h:Al 4 AA.cells w a l) (hc:a = none→c = 0) (hm:l.length * 32≤140737488351232) :
 Calls Tryz.prog 71 #[.slice a l.length c] w (NewF 4 AA.cells 41 l w):=by
 obtain ⟨i72,hi,hz0,hz1,hz2⟩:=info_parts Tryz.infoTsk;have hmm:l.length≤maxLen:=by unfold maxLen;omega
 have n2:l.length * 32≤140737488355328:=by omega
 have hnil:=fun (w:World) a n c => Lib.run_eql_slice_nil (P:=Tryz.prog) w 30 41 a n c 0 0 Tryz.underlying30
 cases a with
 | none =>
  obtain rfl:=hc rfl;obtain rfl:l = []:=by
   cases l with
   | nil => rfl
   | cons y r => obtain ⟨b,off,hh,_⟩:=h 0 y rfl;cases hh
  go_enter Tryz.func71,Tryz.ntmps71;go_wp2_with fail;go_ret;exact ⟨none,0,rfl,AC.nil _ _ _ _ _,(fun _ => rfl),Nat.le_refl _,Nat.zero_le _,Gr.refl _,(fun _ h => by cases h),World.ownsRow_nil _ _ _ _⟩
 | some ad =>
  go_enter Tryz.func71,Tryz.ntmps71;go_wp2_with (at_builtin;refine Cl (k:=4) (enc:=AA.cells) rfl _ _ 30 rfl 41 i72 _ 32 Tryz.underlying30 hi hz0 hz1 hz2 rfl (by decide) AA.cells_len AA.cells_one w.heap.size rfl rfl (some ad) c l rfl h hc hmm n2 ?_;intro v1 w1 hown g1);obtain ⟨a',c',rfl,hr,hn,hb⟩:=Af AA.cells_len hown;have hcap:=CD hown rfl;go_wp2_with fail;go_ret;exact ⟨a',c',rfl,⟨hr,fun x hx _ => hb x hx⟩,hn,hcap.1,hcap.2,g1,fun ad ha _ o => BE hown ha o,hown⟩
theorem Tryz.infoGh:(Tryz.prog.info? 43).map (fun i => (i.zero,i.size,i.bytes)) = some (some (.agg #[.int .i64 0,.int .i64 0,.int .i64 0,.int .i64 0,.int .i64 0]),5,40):=by kernel_rfl
theorem Tryz.infoNd:(Tryz.prog.info? 39).map (fun i => (i.zero,i.size,i.bytes)) = some (some (.agg #[.int .i64 0,.int .i64 0,.int .i64 0,.int .i64 0,.int .i64 0,.int .i64 0,.slice none 0 0]),7,72):=by kernel_rfl
theorem Ly (a:Option Addr) (c:Nat) (l:List Gh) (w:World) (h:Al 5 Gh.cells w a l) (hc:a = none→c = 0) (hm:l.length * 40≤140737488351232) :
 Calls Tryz.prog 92 #[.slice a l.length c] w (NewF 5 Gh.cells 43 l w):=by
 obtain ⟨i72,hi,hz0,hz1,hz2⟩:=info_parts Tryz.infoGh;have hmm:l.length≤maxLen:=by unfold maxLen;omega
 have n2:l.length * 40≤140737488355328:=by omega
 have hnil:=fun (w:World) a n c => Lib.run_eql_slice_nil (P:=Tryz.prog) w 25 43 a n c 0 0 Tryz.underlying25
 cases a with
 | none =>
  obtain rfl:=hc rfl;obtain rfl:l = []:=by
   cases l with
   | nil => rfl
   | cons y r => obtain ⟨b,off,hh,_⟩:=h 0 y rfl;cases hh
  go_enter Tryz.func92,Tryz.ntmps92;go_wp2_with fail;go_ret;exact ⟨none,0,rfl,AC.nil _ _ _ _ _,(fun _ => rfl),Nat.le_refl _,Nat.zero_le _,Gr.refl _,(fun _ h => by cases h),World.ownsRow_nil _ _ _ _⟩
 | some ad =>
  go_enter Tryz.func92,Tryz.ntmps92;go_wp2_with (at_builtin;refine Cl (k:=5) (enc:=Gh.cells) rfl _ _ 25 rfl 43 i72 _ 40 Tryz.underlying25 hi hz0 hz1 hz2 rfl (by decide) Gh.cells_len Gh.cells_one w.heap.size rfl rfl (some ad) c l rfl h hc hmm n2 ?_;intro v1 w1 hown g1);obtain ⟨a',c',rfl,hr,hn,hb⟩:=Af Gh.cells_len hown;have hcap:=CD hown rfl;go_wp2_with fail;go_ret;exact ⟨a',c',rfl,⟨hr,fun x hx _ => hb x hx⟩,hn,hcap.1,hcap.2,g1,fun ad ha _ o => BE hown ha o,hown⟩
end Go.Proofs.YtdfelohjdkcpkaaGreatDoor
