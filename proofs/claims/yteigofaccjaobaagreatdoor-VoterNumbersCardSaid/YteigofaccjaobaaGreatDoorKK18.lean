/- VoterNumbers' walk. Printed by gen_o29.py. -/
import Derived.Test.YteigofaccjaobaaGreatDoorKK17
namespace Go.Proofs.YteigofaccjaobaaGreatDoor
open Go.RowKit
set_option maxRecDepth 100000 in
set_option maxHeartbeats 12800000 in
theorem vn_C_lt (w:World) (hal:∀ w0,Gr w w0→Calls Tryz.prog 7 #[] w0 fun e w' => e = .returned (.bool true)∧Gr w0 w') (a:Bal) (m:Int) (hne:¬ a.n = m) (n:Int) (hn1:-9223372036854775808≤n) (hn:n≤9223372036854775807) (hs:n < 1) :
 Calls Tryz.prog 3 #[.agg #[.int .i64 a.r,.int .i64 a.n],.agg #[.int .i64 a.r,.int .i64 m],.int .i64 n] w fun e w' => e = .returned (.bool true)∧Gr w w':=by
 obtain ⟨w0,hw0⟩:∃ w0,w0 = (w.alloc (.cells #[.int .i64 a.r,.int .i64 a.n] 23)).alloc (.cells #[.int .i64 a.r,.int .i64 m] 23):=⟨_,rfl⟩
 have g0:Gr w w0:=by rw [hw0];exact ((Gr.refl w).alloc _).alloc _
 have ha0:Blk w0 w.heap.size #[.int .i64 a.r,.int .i64 a.n] 23:=by rw [hw0];exact (Blk.new _ _ _).gr ((Gr.refl _).alloc _)
 have hb0:Blk w0 (w.heap.size + 1) #[.int .i64 a.r,.int .i64 m] 23:=by
  rw [hw0];have:=Blk.new (w.alloc (.cells #[.int .i64 a.r,.int .i64 a.n] 23)) #[.int .i64 a.r,.int .i64 m] 23
  rwa [World.size_alloc] at this
 have hal:=hal w0 g0;have hh:=fun w => vhalf_any n w hn
 obtain ⟨H,hH⟩:∃ H,H = halfI n:=⟨_,rfl⟩
 rw [← hH] at hh;have hc:n < 1∧H = 0 ∨ ¬ n < 1∧n - H < H∧H - 1≤n - (H - 1)∧1≤H∧H≤n / 2 + 1:=by
  by_cases h:n < 1
  ·exact .inl ⟨h,by rw [hH];unfold halfI;rw [if_pos h]⟩
  ·have:H = n / 2 + 1:=by rw [hH];unfold halfI;rw [if_neg h]
   exact .inr ⟨h,by omega,by omega,by omega,by omega⟩
 replace hal:=Lib.hid hal;replace hh:=Lib.hid hh;replace hH:=Lib.hid hH;have hab:=fun w => above_any a ⟨a.r,m⟩ w
 have hrab:=fun w => rabove_any a ⟨a.r,m⟩ w
 have haa:=fun w => above_any a a w
 have hba:=fun w => above_any ⟨a.r,m⟩ a w
 rw [above_irr] at haa;rw [above_swap (a:=a) (b:=⟨a.r,m⟩) (fun h => hne h.2)] at hba;obtain ⟨v,hv⟩:∃ v,v = aboveB a ⟨a.r,m⟩:=⟨_,rfl⟩
 rw [← hv] at hab hrab hba;replace hab:=Lib.hid hab;replace hrab:=Lib.hid hrab;replace haa:=Lib.hid haa;replace hba:=Lib.hid hba;replace hv:=Lib.hid hv;rcases hc with ⟨c1,rfl⟩ | ⟨c1,-⟩
 ·have hd1:decide (n < 1) = true:=decide_eq_true c1;cases v with
  | true =>
   go_enter Tryz.func3,Tryz.ntmps3;go_wp2_with fail;rw [← hw0];refine hal.out.mono ?_;rintro e w1 ⟨rfl,g1⟩;have ha1:=ha0.gr g1;have hb1:=hb0.gr g1;have pa0:=ha1.cell (i:=0) (v:=.int .i64 a.r) rfl;have pa1:=ha1.cell (i:=1) (v:=.int .i64 a.n) rfl;have pb0:=hb1.cell (i:=0) (v:=.int .i64 a.r) rfl;have pb1:=hb1.cell (i:=1) (v:=.int .i64 m) rfl;have za:=ha1.lt;have zb:=hb1.lt;have g01:=g0.trans g1;replace ha1:=Lib.hid ha1;replace hb1:=Lib.hid hb1;replace hw0:=Lib.hid hw0;replace ha0:=Lib.hid ha0;replace hb0:=Lib.hid hb0;replace g0:=Lib.hid g0;replace g1:=Lib.hid g1;replace g01:=Lib.hid g01;go_wp2_with fail;refine (hh.out _).mono ?_;rintro e w2 ⟨rfl,hw2⟩;rw [← hw2];clear hw2;go_upto_region 4 with fail
   have q0:=GrW.cell pa0;have q1:=GrW.cell pa1;have q2:=GrW.cell pb0;have q3:=GrW.cell pb1;refine wp_region_grows (by kernel_rfl) (by kernel_rfl) ?_;repeat (any_goals (go_big_quiet_step (first | (with_reducible exact Calls.grows (hab.out _)) | (with_reducible exact Calls.grows (haa.out _)) | (with_reducible exact Calls.grows (hba.out _)) | (with_reducible exact Calls.grows (hrab.out _)) )))
   refine wpQuiet_nil ?_;intro wz hwq;have gz:=GrW.of hwq;clear hwq;go_wp2_with fail;go_ret;exact ⟨rfl,g01.out.trans gz⟩
  | false =>
   go_enter Tryz.func3,Tryz.ntmps3;go_wp2_with fail;rw [← hw0];refine hal.out.mono ?_;rintro e w1 ⟨rfl,g1⟩;have ha1:=ha0.gr g1;have hb1:=hb0.gr g1;have pa0:=ha1.cell (i:=0) (v:=.int .i64 a.r) rfl;have pa1:=ha1.cell (i:=1) (v:=.int .i64 a.n) rfl;have pb0:=hb1.cell (i:=0) (v:=.int .i64 a.r) rfl;have pb1:=hb1.cell (i:=1) (v:=.int .i64 m) rfl;have za:=ha1.lt;have zb:=hb1.lt;have g01:=g0.trans g1;replace ha1:=Lib.hid ha1;replace hb1:=Lib.hid hb1;replace hw0:=Lib.hid hw0;replace ha0:=Lib.hid ha0;replace hb0:=Lib.hid hb0;replace g0:=Lib.hid g0;replace g1:=Lib.hid g1;replace g01:=Lib.hid g01;go_wp2_with fail;refine (hh.out _).mono ?_;rintro e w2 ⟨rfl,hw2⟩;rw [← hw2];clear hw2;go_upto_region 4 with fail
   have q0:=GrW.cell pa0;have q1:=GrW.cell pa1;have q2:=GrW.cell pb0;have q3:=GrW.cell pb1;refine wp_region_grows (by kernel_rfl) (by kernel_rfl) ?_;repeat (any_goals (go_big_quiet_step (first | (with_reducible exact Calls.grows (hab.out _)) | (with_reducible exact Calls.grows (haa.out _)) | (with_reducible exact Calls.grows (hba.out _)) | (with_reducible exact Calls.grows (hrab.out _)) )))
   refine wpQuiet_nil ?_;intro wz hwq;have gz:=GrW.of hwq;clear hwq;go_wp2_with fail;go_ret;exact ⟨rfl,g01.out.trans gz⟩
 ·exact absurd hs c1
set_option maxRecDepth 100000 in
set_option maxHeartbeats 12800000 in
theorem vn_C_ge (w:World) (hal:∀ w0,Gr w w0→Calls Tryz.prog 7 #[] w0 fun e w' => e = .returned (.bool true)∧Gr w0 w') (a:Bal) (m:Int) (hne:¬ a.n = m) (n:Int) (hn1:-9223372036854775808≤n) (hn:n≤9223372036854775807) (hs:¬ n < 1) :
 Calls Tryz.prog 3 #[.agg #[.int .i64 a.r,.int .i64 a.n],.agg #[.int .i64 a.r,.int .i64 m],.int .i64 n] w fun e w' => e = .returned (.bool true)∧Gr w w':=by
 obtain ⟨w0,hw0⟩:∃ w0,w0 = (w.alloc (.cells #[.int .i64 a.r,.int .i64 a.n] 23)).alloc (.cells #[.int .i64 a.r,.int .i64 m] 23):=⟨_,rfl⟩
 have g0:Gr w w0:=by rw [hw0];exact ((Gr.refl w).alloc _).alloc _
 have ha0:Blk w0 w.heap.size #[.int .i64 a.r,.int .i64 a.n] 23:=by rw [hw0];exact (Blk.new _ _ _).gr ((Gr.refl _).alloc _)
 have hb0:Blk w0 (w.heap.size + 1) #[.int .i64 a.r,.int .i64 m] 23:=by
  rw [hw0];have:=Blk.new (w.alloc (.cells #[.int .i64 a.r,.int .i64 a.n] 23)) #[.int .i64 a.r,.int .i64 m] 23
  rwa [World.size_alloc] at this
 have hal:=hal w0 g0;have hh:=fun w => vhalf_any n w hn
 obtain ⟨H,hH⟩:∃ H,H = halfI n:=⟨_,rfl⟩
 rw [← hH] at hh;have hc:n < 1∧H = 0 ∨ ¬ n < 1∧n - H < H∧H - 1≤n - (H - 1)∧1≤H∧H≤n / 2 + 1:=by
  by_cases h:n < 1
  ·exact .inl ⟨h,by rw [hH];unfold halfI;rw [if_pos h]⟩
  ·have:H = n / 2 + 1:=by rw [hH];unfold halfI;rw [if_neg h]
   exact .inr ⟨h,by omega,by omega,by omega,by omega⟩
 replace hal:=Lib.hid hal;replace hh:=Lib.hid hh;replace hH:=Lib.hid hH;have hab:=fun w => above_any a ⟨a.r,m⟩ w
 have hrab:=fun w => rabove_any a ⟨a.r,m⟩ w
 have haa:=fun w => above_any a a w
 have hba:=fun w => above_any ⟨a.r,m⟩ a w
 rw [above_irr] at haa;rw [above_swap (a:=a) (b:=⟨a.r,m⟩) (fun h => hne h.2)] at hba;obtain ⟨v,hv⟩:∃ v,v = aboveB a ⟨a.r,m⟩:=⟨_,rfl⟩
 rw [← hv] at hab hrab hba;replace hab:=Lib.hid hab;replace hrab:=Lib.hid hrab;replace haa:=Lib.hid haa;replace hba:=Lib.hid hba;replace hv:=Lib.hid hv;rcases hc with ⟨c1,-⟩ | ⟨c1,c2,c3,c4,c5⟩
 ·exact absurd c1 hs
 ·have e1:IntKind.i64.wrap (n - H) = n - H:=wraps_i64 _ (by omega) (by omega);have e2:IntKind.i64.wrap (H - 1) = H - 1:=wraps_i64 _ (by omega) (by omega);have e3:IntKind.i64.wrap (n - (H - 1)) = n - (H - 1):=wraps_i64 _ (by omega) (by omega);have c6:1≤n:=by omega
  have f1:decide (n < 1) = false:=decide_eq_false c1;have f2:decide (1≤n) = true:=decide_eq_true c6;have f3:decide (n - H < H) = true:=decide_eq_true c2;have f4:decide (H - 1≤n - (H - 1)) = true:=decide_eq_true c3;cases v with
  | true =>
   go_enter Tryz.func3,Tryz.ntmps3;go_wp2_with fail;rw [← hw0];refine hal.out.mono ?_;rintro e w1 ⟨rfl,g1⟩;have ha1:=ha0.gr g1;have hb1:=hb0.gr g1;have pa0:=ha1.cell (i:=0) (v:=.int .i64 a.r) rfl;have pa1:=ha1.cell (i:=1) (v:=.int .i64 a.n) rfl;have pb0:=hb1.cell (i:=0) (v:=.int .i64 a.r) rfl;have pb1:=hb1.cell (i:=1) (v:=.int .i64 m) rfl;have za:=ha1.lt;have zb:=hb1.lt;have g01:=g0.trans g1;replace ha1:=Lib.hid ha1;replace hb1:=Lib.hid hb1;replace hw0:=Lib.hid hw0;replace ha0:=Lib.hid ha0;replace hb0:=Lib.hid hb0;replace g0:=Lib.hid g0;replace g1:=Lib.hid g1;replace g01:=Lib.hid g01;go_wp2_with fail;refine (hh.out _).mono ?_;rintro e w2 ⟨rfl,hw2⟩;rw [← hw2];clear hw2;go_upto_region 4 with fail
   have q0:=GrW.cell pa0;have q1:=GrW.cell pa1;have q2:=GrW.cell pb0;have q3:=GrW.cell pb1;refine wp_region_grows (by kernel_rfl) (by kernel_rfl) ?_;repeat (any_goals (go_big_quiet_step (first | (with_reducible exact Calls.grows (hab.out _)) | (with_reducible exact Calls.grows (haa.out _)) | (with_reducible exact Calls.grows (hba.out _)) | (with_reducible exact Calls.grows (hrab.out _)) )))
   refine wpQuiet_nil ?_;intro wz hwq;have gz:=GrW.of hwq;clear hwq;go_wp2_with fail;go_ret;exact ⟨rfl,g01.out.trans gz⟩
  | false =>
   go_enter Tryz.func3,Tryz.ntmps3;go_wp2_with fail;rw [← hw0];refine hal.out.mono ?_;rintro e w1 ⟨rfl,g1⟩;have ha1:=ha0.gr g1;have hb1:=hb0.gr g1;have pa0:=ha1.cell (i:=0) (v:=.int .i64 a.r) rfl;have pa1:=ha1.cell (i:=1) (v:=.int .i64 a.n) rfl;have pb0:=hb1.cell (i:=0) (v:=.int .i64 a.r) rfl;have pb1:=hb1.cell (i:=1) (v:=.int .i64 m) rfl;have za:=ha1.lt;have zb:=hb1.lt;have g01:=g0.trans g1;replace ha1:=Lib.hid ha1;replace hb1:=Lib.hid hb1;replace hw0:=Lib.hid hw0;replace ha0:=Lib.hid ha0;replace hb0:=Lib.hid hb0;replace g0:=Lib.hid g0;replace g1:=Lib.hid g1;replace g01:=Lib.hid g01;go_wp2_with fail;refine (hh.out _).mono ?_;rintro e w2 ⟨rfl,hw2⟩;rw [← hw2];clear hw2;go_upto_region 4 with fail
   have q0:=GrW.cell pa0;have q1:=GrW.cell pa1;have q2:=GrW.cell pb0;have q3:=GrW.cell pb1;refine wp_region_grows (by kernel_rfl) (by kernel_rfl) ?_;repeat (any_goals (go_big_quiet_step (first | (with_reducible exact Calls.grows (hab.out _)) | (with_reducible exact Calls.grows (haa.out _)) | (with_reducible exact Calls.grows (hba.out _)) | (with_reducible exact Calls.grows (hrab.out _)) )))
   refine wpQuiet_nil ?_;intro wz hwq;have gz:=GrW.of hwq;clear hwq;go_wp2_with fail;go_ret;exact ⟨rfl,g01.out.trans gz⟩
deriving instance DecidableEq for Tsk,Srv,Ent
theorem tsk_neq (a b c d a' b' c' d':Int) (w:World):(binOp .neq 136 (.agg #[.int .i64 a,.int .i64 b,.int .i64 c,.int .i64 d]) (.agg #[.int .i64 a',.int .i64 b',.int .i64 c',.int .i64 d'])).run Tryz.prog w = .ok (.bool (!decide ((⟨a,b,c,d⟩:Tsk) = ⟨a',b',c',d'⟩))) w:=by
 have h:decide ((⟨a,b,c,d⟩:Tsk) = ⟨a',b',c',d'⟩) = decide (a = a'∧b = b'∧c = c'∧d = d'):=decide_eq_decide.2 ⟨fun h => by injection h with h1 h2 h3 h4;exact ⟨h1,h2,h3,h4⟩,fun ⟨h1,h2,h3,h4⟩ => by rw [h1,h2,h3,h4]⟩;rw [h];by_cases h1:a = a' <;> by_cases h2:b = b' <;> by_cases h3:c = c' <;> by_cases h4:d = d' <;> simp [go_sem,h1,h2,h3,h4]
theorem key_eql2 (a b c d:Int) (w:World):(binOp .eql 203 (.agg #[.int .i64 a,.int .i64 b]) (.agg #[.int .i64 c,.int .i64 d])).run Tryz.prog w = .ok (.bool (decide (a = c∧b = d))) w:=by
 by_cases h1:a = c <;> by_cases h2:b = d <;> simp [go_sem,h1,h2]
set_option maxRecDepth 100000 in
set_option maxHeartbeats 3200000 in
theorem equalT_any (w:World) (a a':Option Addr) (c c':Nat) (l l':List Tsk) (h:RecsAt 4 Tsk.cells w a l) (h':RecsAt 4 Tsk.cells w a' l') (hb:l.length≤100000000000000) :
 Calls Tryz.prog 126 #[.slice a l.length c,.slice a' l'.length c'] w fun e w' => e = .returned (.bool (decide (l = l')))∧Gr w w':=by
 obtain ⟨v,hv⟩:∃ v,v = decide (l = l'):=⟨_,rfl⟩
 rw [← hv];obtain ⟨n,hn⟩:∃ n,n = l.length:=⟨_,rfl⟩
 obtain ⟨n',hn'⟩:∃ n',n' = l'.length:=⟨_,rfl⟩
 rw [← hn,← hn'];rw [← hn] at hb;replace h:=Lib.hid h;replace h':=Lib.hid h';replace hv:=Lib.hid hv;replace hn:=Lib.hid hn;replace hn':=Lib.hid hn';by_cases he:n = n'
 ·subst he;go_enter Tryz.func126,Tryz.ntmps126;go_wp2_with fail;go_loopw [13] (fun iv wr => ∃ k:Nat,k≤n∧iv = .int .i64 k∧Hid (l.take k = l'.take k)∧Gr w wr) (fun iv _ => n - (intOf iv).toNat);case atStart => exact ⟨0,Nat.zero_le _,rfl,Lib.hid (by simp),Gr.refl _⟩
  case round =>
   obtain ⟨k,hk,rfl,hI,hg⟩:=hrel;by_cases hlt:k < n
   ·have hkd:decide ((k:Int) < n) = true:=decide_eq_true (by omega);have hlt2:(k:Int) < n:=by omega
    obtain ⟨t,ht⟩:=get_some l k (by rw [← hn.out];exact hlt);obtain ⟨t',ht'⟩:=get_some l' k (by rw [← hn'.out];exact hlt);obtain ⟨b,off,rfl,hb1,hct⟩:=RecsAt.gr' h.out hg k t ht;obtain ⟨b',off',rfl,hb2,hct'⟩:=RecsAt.gr' h'.out hg k t' ht';have e0':=hct 0 (.int .i64 t.c) rfl;have e1':=hct 1 (.int .i64 t.p) rfl;have e2':=hct 2 (.int .i64 t.d) rfl;have e3':=hct 3 (.int .i64 t.s) rfl;have f0':=hct' 0 (.int .i64 t'.c) rfl;have f1':=hct' 1 (.int .i64 t'.p) rfl;have f2':=hct' 2 (.int .i64 t'.d) rfl;have f3':=hct' 3 (.int .i64 t'.s) rfl;rw [Nat.add_zero] at e0' f0';have e0:=GrW.cell e0';have e1:=GrW.cell e1';have e2:=GrW.cell e2';have e3:=GrW.cell e3';have f0:=GrW.cell f0';have f1:=GrW.cell f1';have f2:=GrW.cell f2';have f3:=GrW.cell f3';have hq:=fun w => tsk_neq t.c t.p t.d t.s t'.c t'.p t'.d t'.s w
    replace ht:=Lib.hid ht;replace ht':=Lib.hid ht';clear hct hct';by_cases htt:t = t'
    ·rw [show decide ((⟨t.c,t.p,t.d,t.s⟩:Tsk) = ⟨t'.c,t'.p,t'.d,t'.s⟩) = true from decide_eq_true htt] at hq;replace htt:=Lib.hid htt;go_upto_region 6 with fail
     refine wp_region_grows (by kernel_rfl) (by kernel_rfl) ?_;repeat (any_goals (first | go_big_quiet_step (first | fail) | quiet_step (first | fail)))
     refine wpQuiet_nil ?_;intro wz hwq;have gz:=GrW.of hwq;clear hwq;obtain ⟨cz,fz,sz⟩:=gz.cells;try simp only [size_drewN] at cz fz sz
     try simp only [World.size_alloc] at cz fz sz
     try simp only [World.size_drew] at cz fz sz
     try simp only [World.size_setCell] at cz fz sz
     go_wp2_with fail;go_roundw;case rel => exact ⟨k + 1,by omega,by go_num,Lib.hid (by rw [take_snoc ht.out,take_snoc ht'.out,hI.out,htt.out]),hg.trans gz⟩
     case measure => simp [intOf];omega
    ·rw [show decide ((⟨t.c,t.p,t.d,t.s⟩:Tsk) = ⟨t'.c,t'.p,t'.d,t'.s⟩) = false from decide_eq_false htt] at hq;have hvf:v = false:=by
      rw [hv.out];refine decide_eq_false (fun e => htt ?_);have h1:=ht.out;rw [e,ht'.out] at h1;exact (Option.some.inj h1).symm
     subst hvf;replace htt:=Lib.hid htt;go_upto_region 6 with fail
     refine wp_region_grows (by kernel_rfl) (by kernel_rfl) ?_;repeat (any_goals (first | go_big_quiet_step (first | fail) | quiet_step (first | fail)))
     refine wpQuiet_nil ?_;intro wz hwq;have gz:=GrW.of hwq;clear hwq;obtain ⟨cz,fz,sz⟩:=gz.cells;try simp only [size_drewN] at cz fz sz
     try simp only [World.size_alloc] at cz fz sz
     try simp only [World.size_drew] at cz fz sz
     try simp only [World.size_setCell] at cz fz sz
     go_wp2_with fail;go_ret;exact ⟨rfl,hg.trans gz⟩
   ·obtain rfl:k = n:=by omega
    have hkd:decide ((k:Int) < k) = false:=decide_eq_false (by omega);have hvt:v = true:=by
     rw [hv.out];refine decide_eq_true ?_;have h1:=hI.out
     rwa [List.take_of_length_le (by rw [← hn.out];exact Nat.le_refl _),List.take_of_length_le (by rw [← hn'.out];exact Nat.le_refl _)] at h1
    subst hvt;go_wp2_with fail;go_ret;exact ⟨rfl,hg⟩
 ·have h1:((n:Int) == n') = false:=beq_eq_false_iff_ne.2 (by omega);have hvf:v = false:=by
   rw [hv.out];exact decide_eq_false (fun e => he (by rw [hn.out,hn'.out,e]))
  subst hvf;go_enter Tryz.func126,Tryz.ntmps126;go_wp2_with fail;go_ret;exact ⟨rfl,Gr.refl _⟩
def sameE (x y:Ent):Bool:=decide (x.cl = y.cl∧x.nu = y.nu) && decide (x.kd = y.kd) && decide (x.id = y.id) && decide (x.srv.k = y.srv.k∧x.srv.q = y.srv.q∧x.srv.t = y.srv.t) && decide (x.po = y.po) && decide (x.at_ = y.at_) && decide (x.tasks = y.tasks)
theorem same_iff (x y:Ent):sameE x y = true ↔ (x.cl = y.cl∧x.nu = y.nu)∧x.kd = y.kd∧x.id = y.id∧(x.srv.k = y.srv.k∧x.srv.q = y.srv.q∧x.srv.t = y.srv.t)∧x.po = y.po∧x.at_ = y.at_∧x.tasks = y.tasks:=by
 unfold sameE;simp only [Bool.and_eq_true,decide_eq_true_iff,and_assoc]
theorem sameE_eq {x y:Ent} (h:sameE x y = true):x = y:=by
 obtain ⟨⟨h1,h2⟩,h3,h4,⟨h5,h6,h7⟩,h8,h9,h10⟩:=(same_iff x y).1 h;obtain ⟨a,b,c,d,⟨e,f,g⟩,i,j,k⟩:=x;obtain ⟨a',b',c',d',⟨e',f',g'⟩,i',j',k'⟩:=y;dsimp only at *;subst h1 h2 h3 h4 h5 h6 h7 h8 h9 h10;rfl
theorem same_no {x y:Ent} {v:Bool} (hz:Hid (v = sameE x y)) (h:¬ ((x.cl = y.cl∧x.nu = y.nu)∧x.kd = y.kd∧x.id = y.id∧(x.srv.k = y.srv.k∧x.srv.q = y.srv.q∧x.srv.t = y.srv.t)∧x.po = y.po∧x.at_ = y.at_∧x.tasks = y.tasks)):false = v:=by
 rw [hz.out];cases hv:sameE x y with
 | false => rfl
 | true => exact absurd ((same_iff x y).1 hv) h
set_option maxRecDepth 100000 in
set_option maxHeartbeats 12800000 in
theorem same_any (x y:EntM) (w:World) (hx:RecsAt 4 Tsk.cells w x.a x.e.tasks) (hy:RecsAt 4 Tsk.cells w y.a y.e.tasks) (hb:x.e.tasks.length≤100000000000000) :
 Calls Tryz.prog 87 #[.agg #[.int .i64 x.e.cl,.int .i64 x.e.nu,.int .i64 x.e.kd,.int .i64 x.e.id,.int .i64 x.e.srv.k,.int .i64 x.e.srv.q,.int .i64 x.e.srv.t,.int .i64 x.e.po,.slice x.a x.e.tasks.length x.c,.int .i64 x.e.at_],.agg #[.int .i64 y.e.cl,.int .i64 y.e.nu,.int .i64 y.e.kd,.int .i64 y.e.id,.int .i64 y.e.srv.k,.int .i64 y.e.srv.q,.int .i64 y.e.srv.t,.int .i64 y.e.po,.slice y.a y.e.tasks.length y.c,.int .i64 y.e.at_]] w fun e w' => e = .returned (.bool (sameE x.e y.e))∧Gr w w':=by
 obtain ⟨v,hz⟩:∃ v,v = sameE x.e y.e:=⟨_,rfl⟩
 rw [← hz];replace hz:=Lib.hid hz;replace hx:=Lib.hid hx;replace hy:=Lib.hid hy;go_enter Tryz.func87,Tryz.ntmps87;go_upto_region 1 with fail
 go_cut [5,6] (fun s5 s6 wx => ∃ b5 b6,s5 = .pointer (some ⟨b5,0,none⟩)∧s6 = .pointer (some ⟨b6,0,none⟩)∧Blk wx b5 #[.int .i64 x.e.kd,.int .i64 x.e.id,.int .i64 x.e.srv.k,.int .i64 x.e.srv.q,.int .i64 x.e.srv.t,.int .i64 x.e.po,.slice x.a x.e.tasks.length x.c,.int .i64 x.e.at_] 71∧Blk wx b6 #[.int .i64 y.e.kd,.int .i64 y.e.id,.int .i64 y.e.srv.k,.int .i64 y.e.srv.q,.int .i64 y.e.srv.t,.int .i64 y.e.po,.slice y.a y.e.tasks.length y.c,.int .i64 y.e.at_] 71∧Gr ((w.alloc (.cells #[.int .i64 x.e.cl,.int .i64 x.e.nu,.int .i64 x.e.kd,.int .i64 x.e.id,.int .i64 x.e.srv.k,.int .i64 x.e.srv.q,.int .i64 x.e.srv.t,.int .i64 x.e.po,.slice x.a x.e.tasks.length x.c,.int .i64 x.e.at_] 73)).alloc (.cells #[.int .i64 y.e.cl,.int .i64 y.e.nu,.int .i64 y.e.kd,.int .i64 y.e.id,.int .i64 y.e.srv.k,.int .i64 y.e.srv.q,.int .i64 y.e.srv.t,.int .i64 y.e.po,.slice y.a y.e.tasks.length y.c,.int .i64 y.e.at_] 73)) wx);case first =>
  go_region;all_goals go_wp2_with fail
  all_goals go_meet
  all_goals refine ⟨_,_,rfl,rfl,?_,?_,?_⟩
  all_goals first | exact (Blk.new1 (by simp)).drew | exact ((Blk.new1 (by simp)).alloc _).drew | exact (by repeat (first | exact Gr.refl _ | apply Gr.alloc | apply Gr.drew | apply Gr.drewN | (refine Gr.setCell ?_ (by first | (simp;done) | (simp;omega)) _) | (refine Gr.trans ?_ (by assumption))))
 case rest =>
  obtain ⟨b5,b6,rfl,rfl,hb5,hb6,g0⟩:=hcut;have g:Gr w wc:=(((Gr.refl w).alloc _).alloc _).trans g0;have hb2:=((Blk.new w #[.int .i64 x.e.cl,.int .i64 x.e.nu,.int .i64 x.e.kd,.int .i64 x.e.id,.int .i64 x.e.srv.k,.int .i64 x.e.srv.q,.int .i64 x.e.srv.t,.int .i64 x.e.po,.slice x.a x.e.tasks.length x.c,.int .i64 x.e.at_] 73).alloc (.cells #[.int .i64 y.e.cl,.int .i64 y.e.nu,.int .i64 y.e.kd,.int .i64 y.e.id,.int .i64 y.e.srv.k,.int .i64 y.e.srv.q,.int .i64 y.e.srv.t,.int .i64 y.e.po,.slice y.a y.e.tasks.length y.c,.int .i64 y.e.at_] 73)).gr g0;have hb3:=(Blk.new1 (w:=w.alloc (.cells #[.int .i64 x.e.cl,.int .i64 x.e.nu,.int .i64 x.e.kd,.int .i64 x.e.id,.int .i64 x.e.srv.k,.int .i64 x.e.srv.q,.int .i64 x.e.srv.t,.int .i64 x.e.po,.slice x.a x.e.tasks.length x.c,.int .i64 x.e.at_] 73)) (n:=w.heap.size + 1) (cs:=#[.int .i64 y.e.cl,.int .i64 y.e.nu,.int .i64 y.e.kd,.int .i64 y.e.id,.int .i64 y.e.srv.k,.int .i64 y.e.srv.q,.int .i64 y.e.srv.t,.int .i64 y.e.po,.slice y.a y.e.tasks.length y.c,.int .i64 y.e.at_]) (t:=73) (by simp)).gr g0;have z5:=hb5.lt;have z6:=hb6.lt;have z2:=hb2.lt;have z3:=hb3.lt;have p0:=GrW.cell (hb5.cell (i:=0) (v:=.int .i64 x.e.kd) rfl);have p1:=GrW.cell (hb5.cell (i:=1) (v:=.int .i64 x.e.id) rfl);have p2:=GrW.cell (hb5.cell (i:=2) (v:=.int .i64 x.e.srv.k) rfl);have p3:=GrW.cell (hb5.cell (i:=3) (v:=.int .i64 x.e.srv.q) rfl);have p4:=GrW.cell (hb5.cell (i:=4) (v:=.int .i64 x.e.srv.t) rfl);have p5:=GrW.cell (hb5.cell (i:=5) (v:=.int .i64 x.e.po) rfl);have p6:=GrW.cell (hb5.cell (i:=6) (v:=.slice x.a x.e.tasks.length x.c) rfl);have p7:=GrW.cell (hb5.cell (i:=7) (v:=.int .i64 x.e.at_) rfl);have q0:=GrW.cell (hb6.cell (i:=0) (v:=.int .i64 y.e.kd) rfl);have q1:=GrW.cell (hb6.cell (i:=1) (v:=.int .i64 y.e.id) rfl);have q2:=GrW.cell (hb6.cell (i:=2) (v:=.int .i64 y.e.srv.k) rfl);have q3:=GrW.cell (hb6.cell (i:=3) (v:=.int .i64 y.e.srv.q) rfl);have q4:=GrW.cell (hb6.cell (i:=4) (v:=.int .i64 y.e.srv.t) rfl);have q5:=GrW.cell (hb6.cell (i:=5) (v:=.int .i64 y.e.po) rfl);have q6:=GrW.cell (hb6.cell (i:=6) (v:=.slice y.a y.e.tasks.length y.c) rfl);have q7:=GrW.cell (hb6.cell (i:=7) (v:=.int .i64 y.e.at_) rfl);have r0:=GrW.cell (hb2.cell (i:=0) (v:=.int .i64 x.e.cl) rfl);have r1:=GrW.cell (hb2.cell (i:=1) (v:=.int .i64 x.e.nu) rfl);have r2:=GrW.cell (hb2.cell (i:=2) (v:=.int .i64 x.e.kd) rfl);have r3:=GrW.cell (hb2.cell (i:=3) (v:=.int .i64 x.e.id) rfl);have r4:=GrW.cell (hb2.cell (i:=4) (v:=.int .i64 x.e.srv.k) rfl);have r5:=GrW.cell (hb2.cell (i:=5) (v:=.int .i64 x.e.srv.q) rfl);have r6:=GrW.cell (hb2.cell (i:=6) (v:=.int .i64 x.e.srv.t) rfl);have r7:=GrW.cell (hb2.cell (i:=7) (v:=.int .i64 x.e.po) rfl);have r8:=GrW.cell (hb2.cell (i:=8) (v:=.slice x.a x.e.tasks.length x.c) rfl);have r9:=GrW.cell (hb2.cell (i:=9) (v:=.int .i64 x.e.at_) rfl);have s0:=GrW.cell (hb3.cell (i:=0) (v:=.int .i64 y.e.cl) rfl);have s1:=GrW.cell (hb3.cell (i:=1) (v:=.int .i64 y.e.nu) rfl);have s2:=GrW.cell (hb3.cell (i:=2) (v:=.int .i64 y.e.kd) rfl);have s3:=GrW.cell (hb3.cell (i:=3) (v:=.int .i64 y.e.id) rfl);have s4:=GrW.cell (hb3.cell (i:=4) (v:=.int .i64 y.e.srv.k) rfl);have s5:=GrW.cell (hb3.cell (i:=5) (v:=.int .i64 y.e.srv.q) rfl);have s6:=GrW.cell (hb3.cell (i:=6) (v:=.int .i64 y.e.srv.t) rfl);have s7:=GrW.cell (hb3.cell (i:=7) (v:=.int .i64 y.e.po) rfl);have s8:=GrW.cell (hb3.cell (i:=8) (v:=.slice y.a y.e.tasks.length y.c) rfl);have s9:=GrW.cell (hb3.cell (i:=9) (v:=.int .i64 y.e.at_) rfl);have hky:=fun w => key_eql2 x.e.cl x.e.nu y.e.cl y.e.nu w
  have hsv:=fun w => srv_eql x.e.srv y.e.srv w
  have heq:∀ w',Gr wc w'→Calls Tryz.prog 126 #[.slice x.a x.e.tasks.length x.c,.slice y.a y.e.tasks.length y.c] w' fun e w'' => e = .returned (.bool (decide (x.e.tasks = y.e.tasks)))∧Gr w' w'':=fun w' g' => equalT_any w' _ _ _ _ _ _ (RecsAt.gr' hx.out (g.trans g')) (RecsAt.gr' hy.out (g.trans g')) hb
  replace g:=Lib.hid g;clear hb2 hb3 hb5 hb6 g0;by_cases hk:x.e.cl = y.e.cl∧x.e.nu = y.e.nu
  ·rw [decide_eq_true hk] at hky;replace hk:=Lib.hid hk;by_cases hkd:x.e.kd = y.e.kd
   ·have tkd:(x.e.kd == y.e.kd) = true:=by simpa using hkd
    replace hkd:=Lib.hid hkd;by_cases hid:x.e.id = y.e.id
    ·have tid:(x.e.id == y.e.id) = true:=by simpa using hid
     replace hid:=Lib.hid hid;by_cases hsr:x.e.srv.k = y.e.srv.k∧x.e.srv.q = y.e.srv.q∧x.e.srv.t = y.e.srv.t
     ·rw [decide_eq_true hsr] at hsv;replace hsr:=Lib.hid hsr;by_cases hpo:x.e.po = y.e.po
      ·have tpo:(x.e.po == y.e.po) = true:=by simpa using hpo
       replace hpo:=Lib.hid hpo;by_cases hat:x.e.at_ = y.e.at_
       ·have tat:(x.e.at_ == y.e.at_) = true:=by simpa using hat
        replace hat:=Lib.hid hat;by_cases hta:x.e.tasks = y.e.tasks
        ·simp only [decide_eq_true hta] at heq;replace hta:=Lib.hid hta;replace heq:=Lib.hid heq;go_upto_region 2 with fail
         refine wp_region_grows (by kernel_rfl) (by kernel_rfl) ?_;repeat (any_goals (first | go_big_quiet_step (first | (exact Calls.grows (keyOf_any x _)) | (exact Calls.grows (keyOf_any y _)) | (exact Calls.grows (heq.out _ (GrW.gr _)))) | quiet_step (first | (exact Calls.grows (keyOf_any x _)) | (exact Calls.grows (keyOf_any y _)) | (exact Calls.grows (heq.out _ (GrW.gr _))))))
         refine wpQuiet_nil ?_;intro wz hwq;have gz:=GrW.of hwq;clear hwq;obtain ⟨cz,fz,sz⟩:=gz.cells;try simp only [size_drewN] at cz fz sz
         try simp only [World.size_alloc] at cz fz sz
         try simp only [World.size_drew] at cz fz sz
         try simp only [World.size_setCell] at cz fz sz
         go_wp2_with fail;go_ret;exact ⟨retb ((hz.out.trans ((same_iff _ _).2 ⟨hk.out,hkd.out,hid.out,hsr.out,hpo.out,hat.out,hta.out⟩)).symm),g.out.trans gz⟩
        ·simp only [decide_eq_false hta] at heq;replace hta:=Lib.hid hta;replace heq:=Lib.hid heq;go_upto_region 2 with fail
         refine wp_region_grows (by kernel_rfl) (by kernel_rfl) ?_;repeat (any_goals (first | go_big_quiet_step (first | (exact Calls.grows (keyOf_any x _)) | (exact Calls.grows (keyOf_any y _)) | (exact Calls.grows (heq.out _ (GrW.gr _)))) | quiet_step (first | (exact Calls.grows (keyOf_any x _)) | (exact Calls.grows (keyOf_any y _)) | (exact Calls.grows (heq.out _ (GrW.gr _))))))
         refine wpQuiet_nil ?_;intro wz hwq;have gz:=GrW.of hwq;clear hwq;obtain ⟨cz,fz,sz⟩:=gz.cells;try simp only [size_drewN] at cz fz sz
         try simp only [World.size_alloc] at cz fz sz
         try simp only [World.size_drew] at cz fz sz
         try simp only [World.size_setCell] at cz fz sz
         go_wp2_with fail;go_ret;exact ⟨retb (same_no hz (fun h => hta.out h.2.2.2.2.2.2)),g.out.trans gz⟩
       ·have tat:(x.e.at_ == y.e.at_) = false:=by simpa using hat
        replace hat:=Lib.hid hat;replace heq:=Lib.hid heq;go_upto_region 2 with fail
        refine wp_region_grows (by kernel_rfl) (by kernel_rfl) ?_;repeat (any_goals (first | go_big_quiet_step (first | (exact Calls.grows (keyOf_any x _)) | (exact Calls.grows (keyOf_any y _)) | (exact Calls.grows (heq.out _ (GrW.gr _)))) | quiet_step (first | (exact Calls.grows (keyOf_any x _)) | (exact Calls.grows (keyOf_any y _)) | (exact Calls.grows (heq.out _ (GrW.gr _))))))
        refine wpQuiet_nil ?_;intro wz hwq;have gz:=GrW.of hwq;clear hwq;obtain ⟨cz,fz,sz⟩:=gz.cells;try simp only [size_drewN] at cz fz sz
        try simp only [World.size_alloc] at cz fz sz
        try simp only [World.size_drew] at cz fz sz
        try simp only [World.size_setCell] at cz fz sz
        go_wp2_with fail;go_ret;exact ⟨retb (same_no hz (fun h => hat.out h.2.2.2.2.2.1)),g.out.trans gz⟩
      ·have tpo:(x.e.po == y.e.po) = false:=by simpa using hpo
       replace hpo:=Lib.hid hpo;replace heq:=Lib.hid heq;go_upto_region 2 with fail
       refine wp_region_grows (by kernel_rfl) (by kernel_rfl) ?_;repeat (any_goals (first | go_big_quiet_step (first | (exact Calls.grows (keyOf_any x _)) | (exact Calls.grows (keyOf_any y _)) | (exact Calls.grows (heq.out _ (GrW.gr _)))) | quiet_step (first | (exact Calls.grows (keyOf_any x _)) | (exact Calls.grows (keyOf_any y _)) | (exact Calls.grows (heq.out _ (GrW.gr _))))))
       refine wpQuiet_nil ?_;intro wz hwq;have gz:=GrW.of hwq;clear hwq;obtain ⟨cz,fz,sz⟩:=gz.cells;try simp only [size_drewN] at cz fz sz
       try simp only [World.size_alloc] at cz fz sz
       try simp only [World.size_drew] at cz fz sz
       try simp only [World.size_setCell] at cz fz sz
       go_wp2_with fail;go_ret;exact ⟨retb (same_no hz (fun h => hpo.out h.2.2.2.2.1)),g.out.trans gz⟩
     ·rw [decide_eq_false hsr] at hsv;replace hsr:=Lib.hid hsr;replace heq:=Lib.hid heq;go_upto_region 2 with fail
      refine wp_region_grows (by kernel_rfl) (by kernel_rfl) ?_;repeat (any_goals (first | go_big_quiet_step (first | (exact Calls.grows (keyOf_any x _)) | (exact Calls.grows (keyOf_any y _)) | (exact Calls.grows (heq.out _ (GrW.gr _)))) | quiet_step (first | (exact Calls.grows (keyOf_any x _)) | (exact Calls.grows (keyOf_any y _)) | (exact Calls.grows (heq.out _ (GrW.gr _))))))
      refine wpQuiet_nil ?_;intro wz hwq;have gz:=GrW.of hwq;clear hwq;obtain ⟨cz,fz,sz⟩:=gz.cells;try simp only [size_drewN] at cz fz sz
      try simp only [World.size_alloc] at cz fz sz
      try simp only [World.size_drew] at cz fz sz
      try simp only [World.size_setCell] at cz fz sz
      go_wp2_with fail;go_ret;exact ⟨retb (same_no hz (fun h => hsr.out h.2.2.2.1)),g.out.trans gz⟩
    ·have tid:(x.e.id == y.e.id) = false:=by simpa using hid
     replace hid:=Lib.hid hid;replace heq:=Lib.hid heq;go_upto_region 2 with fail
     refine wp_region_grows (by kernel_rfl) (by kernel_rfl) ?_;repeat (any_goals (first | go_big_quiet_step (first | (exact Calls.grows (keyOf_any x _)) | (exact Calls.grows (keyOf_any y _)) | (exact Calls.grows (heq.out _ (GrW.gr _)))) | quiet_step (first | (exact Calls.grows (keyOf_any x _)) | (exact Calls.grows (keyOf_any y _)) | (exact Calls.grows (heq.out _ (GrW.gr _))))))
     refine wpQuiet_nil ?_;intro wz hwq;have gz:=GrW.of hwq;clear hwq;obtain ⟨cz,fz,sz⟩:=gz.cells;try simp only [size_drewN] at cz fz sz
     try simp only [World.size_alloc] at cz fz sz
     try simp only [World.size_drew] at cz fz sz
     try simp only [World.size_setCell] at cz fz sz
     go_wp2_with fail;go_ret;exact ⟨retb (same_no hz (fun h => hid.out h.2.2.1)),g.out.trans gz⟩
   ·have tkd:(x.e.kd == y.e.kd) = false:=by simpa using hkd
    replace hkd:=Lib.hid hkd;replace heq:=Lib.hid heq;go_upto_region 2 with fail
    refine wp_region_grows (by kernel_rfl) (by kernel_rfl) ?_;repeat (any_goals (first | go_big_quiet_step (first | (exact Calls.grows (keyOf_any x _)) | (exact Calls.grows (keyOf_any y _)) | (exact Calls.grows (heq.out _ (GrW.gr _)))) | quiet_step (first | (exact Calls.grows (keyOf_any x _)) | (exact Calls.grows (keyOf_any y _)) | (exact Calls.grows (heq.out _ (GrW.gr _))))))
    refine wpQuiet_nil ?_;intro wz hwq;have gz:=GrW.of hwq;clear hwq;obtain ⟨cz,fz,sz⟩:=gz.cells;try simp only [size_drewN] at cz fz sz
    try simp only [World.size_alloc] at cz fz sz
    try simp only [World.size_drew] at cz fz sz
    try simp only [World.size_setCell] at cz fz sz
    go_wp2_with fail;go_ret;exact ⟨retb (same_no hz (fun h => hkd.out h.2.1)),g.out.trans gz⟩
  ·rw [decide_eq_false hk] at hky;replace hk:=Lib.hid hk;replace heq:=Lib.hid heq;go_upto_region 2 with fail
   refine wp_region_grows (by kernel_rfl) (by kernel_rfl) ?_;repeat (any_goals (first | go_big_quiet_step (first | (exact Calls.grows (keyOf_any x _)) | (exact Calls.grows (keyOf_any y _)) | (exact Calls.grows (heq.out _ (GrW.gr _)))) | quiet_step (first | (exact Calls.grows (keyOf_any x _)) | (exact Calls.grows (keyOf_any y _)) | (exact Calls.grows (heq.out _ (GrW.gr _))))))
   refine wpQuiet_nil ?_;intro wz hwq;have gz:=GrW.of hwq;clear hwq;obtain ⟨cz,fz,sz⟩:=gz.cells;try simp only [size_drewN] at cz fz sz
   try simp only [World.size_alloc] at cz fz sz
   try simp only [World.size_drew] at cz fz sz
   try simp only [World.size_setCell] at cz fz sz
   go_wp2_with fail;go_ret;exact ⟨retb (same_no hz (fun h => hk.out h.1)),g.out.trans gz⟩
def shN:List Ent→List Ent→Nat
 | x :: l,y :: m => if sameE x y = true then shN l m + 1 else 0
 | _,_ => 0
theorem shN_take:∀ (l m:List Ent),l.take (shN l m) = m.take (shN l m)
 | [],m => by simp [shN]
 | x :: l,[] => by simp [shN]
 | x :: l,y :: m => by
  unfold shN;by_cases h:sameE x y = true
  ·rw [if_pos h,List.take_succ_cons,List.take_succ_cons,sameE_eq h,shN_take l m]
  ·rw [if_neg h];simp
theorem shN_le:∀ (l m:List Ent),shN l m≤l.length∧shN l m≤m.length
 | [],m => by simp [shN]
 | x :: l,[] => by simp [shN]
 | x :: l,y :: m => by
  have:=shN_le l m;unfold shN;by_cases h:sameE x y = true
  ·rw [if_pos h];simp;omega
  ·rw [if_neg h];simp
theorem shN_step {l m:List Ent} {k:Nat} {x y:Ent} (hx:l[k]? = some x) (hy:m[k]? = some y):shN (l.drop k) (m.drop k) = if sameE x y = true then shN (l.drop (k + 1)) (m.drop (k + 1)) + 1 else 0:=by
 obtain ⟨h1,e1⟩:=List.getElem?_eq_some_iff.1 hx;obtain ⟨h2,e2⟩:=List.getElem?_eq_some_iff.1 hy;rw [List.drop_eq_getElem_cons h1,List.drop_eq_getElem_cons h2,e1,e2];rfl
theorem shN_end {l m:List Ent} {k:Nat} (h:l.length≤k ∨ m.length≤k):shN (l.drop k) (m.drop k) = 0:=by
 have:=shN_le (l.drop k) (m.drop k);rw [List.length_drop,List.length_drop] at this;omega
set_option maxRecDepth 100000 in
set_option maxHeartbeats 3200000 in
theorem shared_any (a1 a2:Option Addr) (c1 c2:Nat) (L1 L2:List EntM) (w:World) (h1:LedM Any w a1 L1) (h2:LedM Any w a2 L2) (hm:L1.length≤64) :
 Calls Tryz.prog 41 #[.slice a1 L1.length c1,.slice a2 L2.length c2] w fun e w' => e = .returned (.int .i64 (shN (Ents L1) (Ents L2):Nat))∧Gr w w':=by
 obtain ⟨n1,hn1⟩:∃ n1,n1 = L1.length:=⟨_,rfl⟩
 obtain ⟨n2,hn2⟩:∃ n2,n2 = L2.length:=⟨_,rfl⟩
 obtain ⟨S,hS⟩:∃ S,S = shN (Ents L1) (Ents L2):=⟨_,rfl⟩
 rw [← hn1] at hm;rw [← hn1,← hn2,← hS];replace hn1:=Lib.hid hn1;replace hn2:=Lib.hid hn2;replace hS:=Lib.hid hS;replace h1:=Lib.hid h1;replace h2:=Lib.hid h2;go_enter Tryz.func41,Tryz.ntmps41;go_wp2_with fail;go_loopw [5] (fun iv wr => ∃ k:Nat,k≤n1∧iv = .int .i64 k∧Hid (S = k + shN ((Ents L1).drop k) ((Ents L2).drop k))∧Gr w wr) (fun iv _ => n1 - (intOf iv).toNat);case atStart => exact ⟨0,Nat.zero_le _,rfl,Lib.hid (by rw [hS.out];simp),Gr.refl _⟩
 case round =>
  obtain ⟨k,hk,rfl,hI,hg⟩:=hrel;by_cases hlt:k < n1
  ·have d1:decide ((k:Int) < n1) = true:=decide_eq_true (by omega);by_cases hlt2:k < n2
   ·have d2:decide ((k:Int) < n2) = true:=decide_eq_true (by omega);have i1:(k:Int) < n1:=by omega
    have i2:(k:Int) < n2:=by omega
    obtain ⟨x,hx⟩:=get_some L1 k (by rw [← hn1.out];exact hlt);obtain ⟨y,hy⟩:=get_some L2 k (by rw [← hn2.out];exact hlt2);have hst:=shN_step (l:=Ents L1) (m:=Ents L2) (k:=k) (x:=x.e) (y:=y.e) (by rw [List.getElem?_map,hx];rfl) (by rw [List.getElem?_map,hy];rfl);have o1:=(h1.out.gr hg).2 x (get_mem hx);have o2:=(h2.out.gr hg).2 y (get_mem hy);have hsm:=fun w' (g:Gr wr w') => same_any x y w' (o1.1.1.gr' g) (o2.1.1.gr' g) (by have:=ent_cap o1;omega)
    obtain ⟨v,hv⟩:∃ v,v = sameE x.e y.e:=⟨_,rfl⟩
    rw [← hv] at hsm hst;obtain ⟨b,off,rfl,hb,_,d0,d1',d2',d3,d4,d5,d6,d7,d8,d9⟩:=(h1.out.gr hg).get hx;obtain ⟨b',off',rfl,hb',_,e0,e1,e2,e3,e4,e5,e6,e7,e8,e9⟩:=(h2.out.gr hg).get hy;have q0:=GrW.cell d0;have q1:=GrW.cell d1';have q2:=GrW.cell d2';have q3:=GrW.cell d3;have q4:=GrW.cell d4;have q5:=GrW.cell d5;have q6:=GrW.cell d6;have q7:=GrW.cell d7;have q8:=GrW.cell d8;have q9:=GrW.cell d9;have p0:=GrW.cell e0;have p1:=GrW.cell e1;have p2:=GrW.cell e2;have p3:=GrW.cell e3;have p4:=GrW.cell e4;have p5:=GrW.cell e5;have p6:=GrW.cell e6;have p7:=GrW.cell e7;have p8:=GrW.cell e8;have p9:=GrW.cell e9;replace hsm:=Lib.hid hsm;replace hx:=Lib.hid hx;replace hy:=Lib.hid hy;replace hv:=Lib.hid hv;replace hst:=Lib.hid hst;replace o1:=Lib.hid o1;replace o2:=Lib.hid o2;cases v with
    | true =>
     have hI2:S = (k + 1) + shN ((Ents L1).drop (k + 1)) ((Ents L2).drop (k + 1)):=by
      have:=hI.out;have h3:=hst.out;rw [if_pos rfl] at h3;omega
     replace hI2:=Lib.hid hI2;go_wp2_with fail;refine wp_region_grows (by kernel_rfl) (by kernel_rfl) ?_;repeat (any_goals (first | go_big_quiet_step (first | (exact Calls.grows (hsm.out _ (by exact GrW.gr _)))) | quiet_step (first | (exact Calls.grows (hsm.out _ (by exact GrW.gr _))))))
     refine wpQuiet_nil ?_;intro wp hwq;have gp:=GrW.of hwq;clear hwq;obtain ⟨cp,fp,sp⟩:=gp.cells;try simp only [size_drewN] at cp fp sp
     try simp only [World.size_alloc] at cp fp sp
     try simp only [World.size_drew] at cp fp sp
     try simp only [World.size_setCell] at cp fp sp
     clear q0 q1 q2 q3 q4 q5 q6 q7 q8 q9 p0 p1 p2 p3 p4 p5 p6 p7 p8 p9;go_wp2_with fail;go_roundw;case rel => exact ⟨k + 1,by omega,by go_num,hI2,hg.trans gp⟩
     case measure => simp [intOf];omega
    | false =>
     have hI2:S = k:=by
      have:=hI.out;have h3:=hst.out;rw [if_neg (by decide)] at h3;omega
     replace hI2:=Lib.hid hI2;go_wp2_with fail;refine wp_region_grows (by kernel_rfl) (by kernel_rfl) ?_;repeat (any_goals (first | go_big_quiet_step (first | (exact Calls.grows (hsm.out _ (by exact GrW.gr _)))) | quiet_step (first | (exact Calls.grows (hsm.out _ (by exact GrW.gr _))))))
     refine wpQuiet_nil ?_;intro wp hwq;have gp:=GrW.of hwq;clear hwq;obtain ⟨cp,fp,sp⟩:=gp.cells;try simp only [size_drewN] at cp fp sp
     try simp only [World.size_alloc] at cp fp sp
     try simp only [World.size_drew] at cp fp sp
     try simp only [World.size_setCell] at cp fp sp
     clear q0 q1 q2 q3 q4 q5 q6 q7 q8 q9 p0 p1 p2 p3 p4 p5 p6 p7 p8 p9;go_wp2_with fail;go_ret;exact ⟨by rw [hI2.out];rfl,hg.trans gp⟩
   ·have d2:decide ((k:Int) < n2) = false:=decide_eq_false (by omega);have hI2:S = k:=by have:=hI.out;rw [shN_end (.inr (by rw [List.length_map,← hn2.out];omega))] at this;omega
    replace hI2:=Lib.hid hI2;go_wp2_with fail;refine wp_region_grows (by kernel_rfl) (by kernel_rfl) ?_;repeat (any_goals (first | go_big_quiet_step (first | fail) | quiet_step (first | fail)))
    refine wpQuiet_nil ?_;intro wp hwq;have gp:=GrW.of hwq;clear hwq;obtain ⟨cp,fp,sp⟩:=gp.cells;try simp only [size_drewN] at cp fp sp
    try simp only [World.size_alloc] at cp fp sp
    try simp only [World.size_drew] at cp fp sp
    try simp only [World.size_setCell] at cp fp sp
    go_wp2_with fail;go_ret;exact ⟨by rw [hI2.out];rfl,hg.trans gp⟩
  ·have d1:decide ((k:Int) < n1) = false:=decide_eq_false (by omega);have hI2:S = k:=by have:=hI.out;rw [shN_end (.inl (by rw [List.length_map,← hn1.out];omega))] at this;omega
   replace hI2:=Lib.hid hI2;go_wp2_with fail;refine wp_region_grows (by kernel_rfl) (by kernel_rfl) ?_;repeat (any_goals (first | go_big_quiet_step (first | fail) | quiet_step (first | fail)))
   refine wpQuiet_nil ?_;intro wp hwq;have gp:=GrW.of hwq;clear hwq;obtain ⟨cp,fp,sp⟩:=gp.cells;try simp only [size_drewN] at cp fp sp
   try simp only [World.size_alloc] at cp fp sp
   try simp only [World.size_drew] at cp fp sp
   try simp only [World.size_setCell] at cp fp sp
   go_wp2_with fail;go_ret;exact ⟨by rw [hI2.out];rfl,hg.trans gp⟩
theorem LedM.dropV {K:Nat→Prop} {w:World} {b off:Nat} {L:List EntM} (h:LedM K w (some ⟨b,off,none⟩) L) (k:Nat):LedM K w (some ⟨b,off + k * 10,none⟩) (L.drop k):=by
 refine ⟨⟨fun i s hi => ?_,fun x hx hne => ?_⟩,fun x hx => h.2 x (List.mem_of_mem_drop hx)⟩
 ·rw [List.getElem?_drop] at hi;obtain ⟨b2,o2,e,hb,hc⟩:=h.1.1 (k + i) s hi;injection e with e
  injection e with e1 e2 e3
  subst e1 e2;refine ⟨b,off + k * 10,rfl,hb,fun j v hv => ?_⟩;have:=hc j v hv
  rwa [show off + (k + i) * 10 + j = off + k * 10 + i * 10 + j by omega] at this
 ·injection hx with hx
  rw [← hx];exact h.1.2 ⟨b,off,none⟩ rfl (fun e => hne (by rw [e,List.drop_nil]))
theorem VwrP.pre {W:World} {E:Nat→Addr} {db lb vb:Nat} {V:VotM} {s':VotS} {b:List UInt8} {M:DskM} {L:LogM} {w w1:World} {q:Ending} {w':World} (g:Gr w w1) (h:VwrP W E db lb vb V s' b M L w1 q w'):VwrP W E db lb vb V s' b M L w q w':=by
 obtain ⟨M',L',V',h1,h2,h3,h4,h5,h6,h7,h8,h9⟩:=h.x;exact ⟨M',L',V',h1,h2,h3,h4,h5,h6,fun x hx => (h7 x hx).imp id (fun hh => by have:=g.size;omega),h8,(g.x _).trans h9⟩
theorem nats4 (w:World) (a b c d:Nat):RecsAt 1 natC (w.alloc (.cells #[.int .i64 a,.int .i64 b,.int .i64 c,.int .i64 d] 3)) (some ⟨w.heap.size,0,none⟩) [a,b,c,d]:=recs_alloc natC_len w [a,b,c,d] _ _ rfl
set_option maxRecDepth 100000 in
set_option maxHeartbeats 12800000 in
theorem acc_go_s {G:List Nat} {E:Nat→Addr} {W:World} (w:World) (hE:EAt G E W) (i0:4 ∈ G) (i4:0 ∈ G) (i5:1 ∈ G) (i3:5 ∈ G) (i6:2 ∈ G) (i8:6 ∈ G) {db lb vb:Nat} {V:VotM} {M:DskM} {L:LogM} (h:Hold W db lb vb V M L w) (hC:M.m + M.d.C.length≤880000) (h4:4≤M.d.n) (b:Bal) (r m:Nat) (hbr:b.r = r) (hbm:b.n = m) (hm:mayB V b = true) (lb2 lo2:Nat) (c2:Nat) (Lg:List EntM) (hM2:LedM Any w (some ⟨lb2,lo2,none⟩) Lg) (hf:ledF (Ents Lg) = true) (hc2:Lg.length≤c2) :
 Calls Tryz.prog 14 #[.pointer (some ⟨vb,0,none⟩),.agg #[.int .i64 b.r,.int .i64 b.n],.slice (some ⟨lb2,lo2,none⟩) Lg.length c2] w (VwrP W E db lb vb V ⟨r,m,r,m,Ents Lg,V.s.cl⟩ (vrB [2,r,m,shN V.s.l (Ents Lg)] (some ((Ents Lg).drop (shN V.s.l (Ents Lg))))) M L w):=by
 obtain ⟨P,hP⟩:∃ P,P = VwrP W E db lb vb V ⟨r,m,r,m,Ents Lg,V.s.cl⟩ (vrB [2,r,m,shN V.s.l (Ents Lg)] (some ((Ents Lg).drop (shN V.s.l (Ents Lg))))) M L w:=⟨_,rfl⟩
 rw [← hP];replace hP:=Lib.hid hP;have hleg:1≤b.r∧b.r≤1099511627776∧0≤b.n∧b.n≤6:=by
  unfold mayB at hm;rw [Bool.and_eq_true] at hm;exact of_decide_eq_true hm.1
 obtain ⟨hl1,hl2,hl3,hl4⟩:=hleg;have hr40:r≤1099511627776:=by omega
 have hm40:m≤1099511627776:=by omega
 have hf64:=(ledF_iff.1 hf).1;have hv64:=(ledF_iff.1 h.v.ok.2).1;have hVL:V.L.length = V.s.l.length:=by rw [← h.v.e,List.length_map]
 have hEL:(Ents Lg).length = Lg.length:=List.length_map ..;obtain ⟨k,hk⟩:∃ k,k = shN V.s.l (Ents Lg):=⟨_,rfl⟩
 have hk1:k≤V.s.l.length:=by rw [hk];exact (shN_le _ _).1
 have hk2:k≤Lg.length:=by rw [hk,← hEL];exact (shN_le _ _).2
 have htk:V.s.l.take k ++ (Ents Lg).drop k = Ents Lg:=by rw [hk,shN_take,List.take_append_drop]
 have hft:ledF ((Ents Lg).drop k) = true:=ledF_iff.2 ⟨by rw [List.length_drop];omega,fun e he => (ledF_iff.1 hf).2 e (List.mem_of_mem_drop he)⟩;obtain ⟨B,hB⟩:∃ B,B = vrB [2,r,m,k] (some ((Ents Lg).drop k)):=⟨_,rfl⟩
 have hPB:P = VwrP W E db lb vb V ⟨r,m,r,m,Ents Lg,V.s.cl⟩ B M L w:=by rw [hP.out,hB,hk]
 replace hPB:=Lib.hid hPB;obtain ⟨w0,hw0⟩:∃ w0,w0 = w.alloc (.cells #[.int .i64 b.r,.int .i64 b.n] 23):=⟨_,rfl⟩
 have g0:Gr w w0:=by rw [hw0];exact (Gr.refl w).alloc _
 have hp0:Blk w0 w.heap.size #[.int .i64 b.r,.int .i64 b.n] 23:=by rw [hw0];exact Blk.new _ _ _
 have hma:Calls Tryz.prog 36 #[.pointer (some ⟨vb,0,none⟩),.agg #[.int .i64 b.r,.int .i64 b.n]] w0 fun e w' => e = .returned (badE E V b)∧Gr w0 w':=may_any w0 (hE.gr (h.g.trans g0)) i5 i8 (h.v.gr g0) b
 rw [may_yes hm] at hma;have how:=fun w1 (g:Gr w w1) => (owrite_any w1 ((hE.gr h.g).gr g) i0 (some ⟨lb2,lo2,none⟩) c2 Lg (hM2.gr g) (by omega)).mono fun r w' hh => hh.1 hf
 have hsh:=fun w1 (g:Gr w w1) => shared_any V.a (some ⟨lb2,lo2,none⟩) V.c c2 V.L Lg w1 ((h.v.m.gr g).mono fun _ _ _ => trivial) (hM2.gr g) (by omega)
 rw [h.v.e,← hk,hVL] at hsh;obtain ⟨a3,ha3⟩:∃ a3:Option Addr,(if c2 = k then some ⟨lb2,lo2,none⟩ else some ⟨lb2,lo2 + k * 10,none⟩) = a3:=⟨_,rfl⟩
 have hrc:∀ w1 nb,Gr w w1→RecsAt 1 natC w1 (some ⟨nb,0,none⟩) [2,r,m,k]→Calls Tryz.prog 37 #[.slice (some ⟨nb,0,none⟩) 4 4,.slice a3 (Lg.length - k) (c2 - k),.bool true] w1 fun q w' => ∃ a c,q = .returned (.tuple #[.slice a B.length c,.nilIface])∧Own w1 w' a c B:=fun w1 nb g hN => by
  have hdr:LedM Any w1 a3 (Lg.drop k):=by
   rw [← ha3];by_cases hck:c2 = k
   ·have e:Lg.drop k = []:=List.drop_eq_nil_of_le (by omega);rw [e];exact LedM.nil _ _ _
   ·rw [if_neg hck];exact (hM2.gr g).dropV k
  have hh:=record_led w1 ((hE.gr h.g).gr g) i0 ((Ents Lg).drop k) hft a3 (c2 - k) (Lg.drop k) (List.map_drop ..) hdr (some ⟨nb,0,none⟩) 4 [2,r,m,k] hN (by simp;omega) (by simp);rw [List.length_drop,hEL,← hB] at hh;exact hh
 rw [hbr,hbm] at hma hp0 hw0 ⊢;obtain ⟨bl,hbl⟩:∃ bl,bl = B.length:=⟨_,rfl⟩
 obtain ⟨n2,hn2⟩:∃ n2,n2 = Lg.length:=⟨_,rfl⟩
 obtain ⟨wl,hwl⟩:∃ wl,wl = (ledB (Ents Lg)).length:=⟨_,rfl⟩
 rw [← hn2] at how hsh hrc hc2 hk2 ⊢;rw [← hwl] at how;rw [← hbl] at hrc;have p0:=hp0.cell (i:=0) (v:=.int .i64 r) rfl;have p1:=hp0.cell (i:=1) (v:=.int .i64 m) rfl;have pz:=hp0.lt;replace hma:=Lib.hid hma;replace how:=Lib.hid how;replace hsh:=Lib.hid hsh;replace hrc:=Lib.hid hrc;replace h:=Lib.hid h;replace hE:=Lib.hid hE;replace hB:=Lib.hid hB;replace hbl:=Lib.hid hbl;replace hn2:=Lib.hid hn2;replace hwl:=Lib.hid hwl;replace hk:=Lib.hid hk;replace htk:=Lib.hid htk;replace hft:=Lib.hid hft;replace hf:=Lib.hid hf;replace hVL:=Lib.hid hVL;replace hEL:=Lib.hid hEL;replace hM2:=Lib.hid hM2;replace hC:=Lib.hid hC;replace hk1:=Lib.hid hk1;replace hv64:=Lib.hid hv64;replace hf64:=Lib.hid hf64;clear hm hl1 hl2 hl3 hl4 hbr hbm;have kk1:(k:Int)≤n2:=by omega
 have kk2:(k:Int)≤c2:=by omega
 go_enter Tryz.func14,Tryz.ntmps14;go_wp2_with fail;rw [← hw0];refine hma.out.mono ?_;rintro q w1 ⟨rfl,g1⟩;have gw1:=g0.trans g1;go_wp2_with fail;refine (how.out _ gw1).mono ?_;rintro q w2 ⟨aw,cw,rfl,how2⟩;have gw2:=gw1.trans how2.2.2.2.2;have h2:=h.out.gr gw2;have hp2:=(hp0.gr g1).gr how2.2.2.2.2;have d0:=h2.v.b.cell (i:=0) (v:=.int .i64 V.s.pr) rfl;have d1:=h2.v.b.cell (i:=1) (v:=.int .i64 V.s.pn) rfl;have d2:=h2.v.b.cell (i:=2) (v:=.int .i64 V.s.ar) rfl;have d3:=h2.v.b.cell (i:=3) (v:=.int .i64 V.s.an) rfl;have d4:=h2.v.b.cell (i:=4) (v:=.slice V.a V.s.l.length V.c) rfl;have d5:=h2.v.b.cell (i:=5) (v:=.int .i64 V.s.cl) rfl;have d6:=h2.v.b.cell (i:=6) (v:=.int .i64 V.nu) rfl;have d7:=h2.v.b.cell (i:=7) (v:=.pointer (some ⟨lb,0,none⟩)) rfl;have dz:=h2.v.b.lt;replace how2:=Lib.hid how2;replace h2:=Lib.hid h2;clear p0 p1 pz;go_wp2_with fail;refine (hsh.out _ gw2).mono ?_;rintro q w3 ⟨rfl,g3⟩;have gw3:=gw2.trans g3;have hp3:=hp2.gr g3;have p0:=hp3.cell (i:=0) (v:=.int .i64 r) rfl;have p1:=hp3.cell (i:=1) (v:=.int .i64 m) rfl;have pz:=hp3.lt;clear d0 d1 d2 d3 d4 d5 d6 d7 dz;go_upto_region 8 with fail
 have h3:=h2.out.gr g3;replace h3:=Lib.hid h3;replace g3:=Lib.hid g3;replace hp3:=Lib.hid hp3;go_region_held3 (fun w' => w'.cell? ⟨w.heap.size,0,none⟩ = some (.int .i64 r)∧w'.cell? ⟨w.heap.size,1,none⟩ = some (.int .i64 m)) (simp (maxDischargeDepth:=8) [go_sem, *])
  (first
   | (go_at_call 37;(with_reducible refine (hrc.out _ _ ?hg ?hr).mono ?_);(case hg => refine gw3.trans ?_;repeat (first | exact Gr.refl _ | refine Gr.alloc ?_ _ | refine Gr.drew ?_));(case hr => first | exact nats4 _ _ _ _ _ | exact RecsAt.gr' (nats4 _ _ _ _ _) ((Gr.refl _).drew));rintro q w4 ⟨a4,c4,rfl,ho4⟩;have hb4:=h3.out.own_byt (((Gr.refl w3).alloc _).drew) ho4;have g34:Gr w3 w4:=(((Gr.refl w3).alloc _).drew).trans ho4.2.2.2.2;replace ho4:=Lib.hid ho4;have hp4:=hp3.out.gr g34;have x0:=hp4.cell (i:=0) (v:=.int .i64 r) rfl;have x1:=hp4.cell (i:=1) (v:=.int .i64 m) rfl;have xz:=hp4.lt;replace hp4:=Lib.hid hp4;replace hb4:=Lib.hid hb4;replace g34:=Lib.hid g34)
   | fail)
 have h4':=h3.out.gr g34.out;have gw4:Gr w w4:=gw3.trans g34.out;have hvok:=h4'.v.ok;have hwr:=write_any w4 hE.out i0 i4 i5 i3 i6 h4' (by have:=hC.out;omega) h4 a4 c4 B hb4.out ⟨r,m,r,m,Ents Lg,V.s.cl⟩ ⟨⟨hr40,hm40,hr40,hm40,hvok.1.2.2.2.2⟩,hf.out⟩ (fun w1 gW1 hS1 hM1 => by
  rw [hB.out] at hS1 ⊢;refine (done_a w1 hE.out gW1 i0 a4 c4 V.s V.a V.c V.L h4'.v.e hM1 h4'.v.c hv64.out r m k ((Ents Lg).drop k) hr40 hm40 hk1.out hft.out hS1 hb4.out.n).mono ?_;rw [htk.out];rintro e w' ⟨a',c',L',rfl,q1,q2,q3,q4,-,q6⟩;exact ⟨a',c',L',rfl,q1,.inl q2,q3,q4,q6⟩)
 rw [← hbl.out] at hwr;replace hwr:=Lib.hid hwr;replace h4':=Lib.hid h4';replace hvok:=Lib.hid hvok;replace gw4:=Lib.hid gw4;go_wp2_with fail;refine hwr.out.mono ?_;intro q w5 hq;have hq2:=VwrP.pre gw4.out hq;rw [← hPB.out] at hq2;obtain ⟨M',L',V',rfl,-⟩:=hq.x;clear hq;replace hq2:=Lib.hid hq2;go_wp2_with fail;exact hq2.out
set_option maxRecDepth 100000 in
set_option maxHeartbeats 6400000 in
theorem vaccepted_any {W:World} (w:World) {vb lb:Nat} {own:List Nat} {V:VotM} (h:VotAt W w vb lb own V) :
 Calls Tryz.prog 16 #[.pointer (some ⟨vb,0,none⟩)] w fun e w' => (∃ a c L,e = .returned (.tuple #[.agg #[.int .i64 V.s.ar,.int .i64 V.s.an],.slice a V.s.l.length c])∧Ents L = V.s.l∧LedM (fun b => w.heap.size≤b) w' a L∧(a = none→c = 0)∧V.s.l.length≤c)∧Gr w w':=by
 have hl64:=(ledF_iff.1 h.ok.2).1;have hVL:V.L.length = V.s.l.length:=by rw [← h.e,List.length_map]
 obtain ⟨wa,hwa⟩:∃ wa,wa = w.alloc (.cells #[.int .i64 0,.int .i64 0] 23):=⟨_,rfl⟩
 have ga:Gr w wa:=by rw [hwa];exact (Gr.refl w).alloc _
 have hrR:Blk wa w.heap.size #[.int .i64 0,.int .i64 0] 23:=by rw [hwa];exact Blk.new _ _ _
 have hVR:=h.gr ga;have d0:=hVR.b.cell (i:=0) (v:=.int .i64 V.s.pr) rfl;have d1:=hVR.b.cell (i:=1) (v:=.int .i64 V.s.pn) rfl;have d2:=hVR.b.cell (i:=2) (v:=.int .i64 V.s.ar) rfl;have d3:=hVR.b.cell (i:=3) (v:=.int .i64 V.s.an) rfl;have d4:=hVR.b.cell (i:=4) (v:=.slice V.a V.s.l.length V.c) rfl;have d5:=hVR.b.cell (i:=5) (v:=.int .i64 V.s.cl) rfl;have d6:=hVR.b.cell (i:=6) (v:=.int .i64 V.nu) rfl;have d7:=hVR.b.cell (i:=7) (v:=.pointer (some ⟨lb,0,none⟩)) rfl;have dz:=hVR.b.lt;have q0:=hrR.cell (i:=0) (v:=.int .i64 0) rfl;have q1:=hrR.cell (i:=1) (v:=.int .i64 0) rfl;have qf0:=hrR.free 0;have qf1:=hrR.free 1;have qz:=hrR.lt;replace h:=Lib.hid h;go_enter Tryz.func16,Tryz.ntmps16;go_upto_region 1 with fail
 rw [← hwa];replace hwa:=Lib.hid hwa;have hcp:=fun w' (g:Gr wa w') => vcopied_any V.a V.c V.L w' ((hVR.m.gr g).mono fun _ _ _ => trivial) (by rw [hVL];omega)
 rw [hVL] at hcp;replace hcp:=Lib.hid hcp;replace hVR:=Lib.hid hVR;go_region_held3 (fun w' => w'.cell? ⟨vb,2,none⟩ = some (.int .i64 V.s.ar)∧w'.cell? ⟨vb,3,none⟩ = some (.int .i64 V.s.an)∧w'.cell? ⟨vb,4,none⟩ = some (.slice V.a V.s.l.length V.c)) (simp (maxDischargeDepth:=8) [go_sem, *])
  (first
   | (go_at_call 39;(with_reducible refine (hcp.out _ ?hg).mono ?_);(case hg => repeat (first | exact Gr.refl _ | refine Gr.alloc ?_ _ | refine Gr.drew ?_));rintro e wX ⟨aX,cX,LX,rfl,hmX,hMX,hnX,hcX1,hcX2,gX,-,-⟩;rw [hVL] at hcX1 ⊢;have hVX:=hVR.out.gr (((Gr.refl wa).drew).trans gX);have x2:=hVX.b.cell (i:=2) (v:=.int .i64 V.s.ar) rfl;have x3:=hVX.b.cell (i:=3) (v:=.int .i64 V.s.an) rfl;have x4:=hVX.b.cell (i:=4) (v:=.slice V.a V.s.l.length V.c) rfl;have hrX:=hrR.gr (((Gr.refl wa).drew).trans gX);have y0:=hrX.cell (i:=0) (v:=.int .i64 0) rfl;have y1:=hrX.cell (i:=1) (v:=.int .i64 0) rfl;have yf0:=hrX.free 0;have yf1:=hrX.free 1;have yz:=hrX.lt;have vz:=hVX.b.lt;replace hVX:=Lib.hid hVX)
   | fail)
 have gRX:Gr wa wX:=((Gr.refl wa).drew).trans gX;have hrX:=hrR.gr gRX;have hrf:=(hrX.set 0 (.int .i64 V.s.ar)).set 1 (.int .i64 V.s.an);have gs:GrX [w.heap.size] wX ((wX.setCell ⟨w.heap.size,0,none⟩ (.int .i64 V.s.ar)).setCell ⟨w.heap.size,1,none⟩ (.int .i64 V.s.an)):=((GrX.refl [w.heap.size] wX).set (p:=⟨w.heap.size,0,none⟩) (.inl (by simp)) _).set (p:=⟨w.heap.size,1,none⟩) (.inl (by simp)) _;obtain ⟨wf,hwf⟩:∃ wf,wf = ((wX.setCell ⟨w.heap.size,0,none⟩ (.int .i64 V.s.ar)).setCell ⟨w.heap.size,1,none⟩ (.int .i64 V.s.an)):=⟨_,rfl⟩
 rw [← hwf] at hrf gs ⊢;have zR2:w.heap.size < wa.heap.size:=hrR.lt;have hEX:Ents LX = V.s.l:=hmX.trans hVR.out.e;have hMX2:LedM (fun b => w.heap.size≤b) wf aX LX:=(hMX.grx gs (fun y hy hk => by rw [List.mem_singleton.1 hy] at hk;simp only [World.size_drew] at hk;omega)).mono (fun b _ hk => by simp only [World.size_drew] at hk;omega);have hfin:Gr w wf:=GrX.all (ga.trans gRX) gs (fun x hx => by rw [List.mem_singleton.1 hx];exact Nat.le_refl _);replace hMX2:=Lib.hid hMX2;replace hrf:=Lib.hid hrf;clear gs hwf;go_wp2_with fail;refine bodyPost_ret (v:=.tuple #[.agg #[.int .i64 V.s.ar,.int .i64 V.s.an],.slice aX V.s.l.length cX]) ?_ rfl ⟨⟨aX,cX,LX,rfl,hEX,hMX2.out,hnX,hcX1⟩,hfin⟩;exact (res_cell (b:=w.heap.size) (t:=23) Tryz.results16 _ _ hrf.out rfl Tryz.underlying23 (by kernel_rfl)).trans rfl
def topC (s:VotS) (b:Bal):Int:=if b.r≤1099511627776 then max (max (s.pr:Int) s.cl) b.r else max (s.pr:Int) s.cl
end Go.Proofs.YteigofaccjaobaaGreatDoor
