/- almonerref12: response, Guest in all ways. Printed by gen_f7.py. -/
import Derived.Test.YtdfelohjdkcpkaaGreatDoorKK19
set_option maxRecDepth 100000
set_option maxHeartbeats 12800000
namespace Go.Proofs.YtdfelohjdkcpkaaGreatDoor
open Go.RowKit
theorem JQ (s:Ao) (a:Option Addr) (l:List AA) (c i:Nat) (t:AA) (w:World) (h:AE s = true) (hl:A1 w a l) (hok:AF l = true) (ht:l[i]? = some t) :
 Calls Tryz.prog 104 #[.agg #[.int .i64 s.k,.int .i64 s.q,.int .i64 s.t],.slice a l.length c,.int .i64 i] w fun e w' => e = .returned (.int .i64 (CB s l i t.d.toNat))∧Gr w w':=by
 have hlt:=BQ hok ht;have hil:=AQ ht;have h8:=(Ay hok).2;obtain ⟨t1,t2,t3,t4,t5,t6⟩:=hlt;obtain ⟨W,hW⟩:=zE (w.alloc (.cells #[.int .i64 s.k,.int .i64 s.q,.int .i64 s.t] 29));have gW:Gr w W:=by rw [hW];exact (Gr.refl w).alloc _
 have hB:Ag W (w.heap.size) #[.int .i64 s.k,.int .i64 s.q,.int .i64 s.t] 29:=by
  rw [hW];exact Ag.n0
 have hWz:W.heap.size = w.heap.size + 1:=by rw [hW];simp
 have hbo:=fun (x:Int) (w':World) (hx:A2 x) => Jf s x w' h hx
 have hun:∀ (x:Int) (w':World),Gr w w'→A2 x→Calls Tryz.prog 175 #[.slice a l.length c,.int .i64 i,.int .i64 x] w' fun e w'' => e = .returned (.int .i64 (GU l i x))∧Gr w' w'':=fun x w' g hx => I7 a l c i x w' (hl.gr g) hok hx (by omega) (by omega)
 obtain ⟨r,hr⟩:=zE (CB s l i t.d.toNat);rw [← hr];refine Br ?_ hr hbo hun h hok hl hW hB;clear hr hbo hun h hok hl hW hB;intro hr hbo hun h hok hl hW hB;replace ht:=zH ht;go_enter Tryz.func104,Tryz.ntmps104;go_upto_region 1 with fail
 rw [← hW.out];go_wp2_with fail;go_loopw [7] (fun iv wr => ∃ n:Nat,1≤n∧(n:Int)≤t.d + 1∧iv = .int .i64 n∧(∀ j:Nat,1≤j→j < n→Au (Ak s) j < GU l i j)∧Gr W wr) (fun iv _ => (t.d + 1).toNat - (intOf iv).toNat);case atStart => exact ⟨1,by omega,by omega,rfl,(fun j h1 h2 => by omega),Gr.refl _⟩
 case round =>
  obtain ⟨n,n1,n2,rfl,hall,hg⟩:=hrel;replace hall:=zH hall;have gA:=gW.trans hg;obtain ⟨b,off,hab,hb,d0,d1,d2,d3⟩:=(hl.out.gr gA) i t ht.out;subst hab;have ti0:(0:Int)≤(i:Int):=by omega
  have ti1:(i:Int) < l.length:=by omega
  have hBr:=hB.out.gr hg;obtain ⟨b0,b1,b2⟩:=hBr.c3;replace hBr:=zH hBr;by_cases hn:(n:Int)≤t.d
  ·have hnb:decide ((n:Int)≤t.d) = true:=decide_eq_true hn;have hlen:A2 (n:Int):=⟨by omega,by omega⟩
   replace hlen:=zH hlen;go_upto_region 4 with fail
   go_region_held3 (fun w' => w'.cell? ⟨w.heap.size,0,none⟩ = some (.int .i64 s.k)∧w'.cell? ⟨w.heap.size,1,none⟩ = some (.int .i64 s.q)∧w'.cell? ⟨w.heap.size,2,none⟩ = some (.int .i64 s.t)) (simp (maxDischargeDepth:=8) [go_sem, *])
    (first
     | (go_at_call 175;(with_reducible refine (hun.out n _ gA.drew hlen.out).mono ?_);rintro e w3 ⟨rfl,g3⟩;have hB3:=(hBr.out.drew).gr g3;obtain ⟨e0,e1,e2⟩:=hB3.c3;replace hB3:=zH hB3)
     | (go_at_call 176;(with_reducible refine (hbo.out n w3 hlen.out).mono ?_);rintro e w4 ⟨rfl,g4⟩;have hB4:=hB3.out.gr g4;obtain ⟨f0,f1,f2⟩:=hB4.c3;replace hB4:=zH hB4)
     | fail)
   clear b0 b1 b2 e0 e1 e2 f0 f1 f2;have g5:Gr wr w4:=((Gr.refl wr).drew.trans g3).trans g4;by_cases hle:GU l i n≤Au (Ak s) n
   ·have hleb:decide (GU l i n≤Au (Ak s) n) = true:=decide_eq_true hle;have hrn:r = n:=by
     rw [hr.out];unfold CB;rw [IC (k:=n - 1) (by omega) (by rw [show ((n - 1:Nat):Int) + 1 = n by omega];exact hleb) (fun j hj => by
      rw [decide_eq_false];have:=hall.out (j + 1) (by omega) (by omega);rw [show ((j + 1:Nat):Int) = (j:Int) + 1 by omega] at this;omega)]
     omega
    replace hrn:=zH hrn;go_wp2_with fail;go_ret;exact ⟨by rw [hrn.out];rfl,gA.trans g5⟩
   ·have hleb:decide (GU l i n≤Au (Ak s) n) = false:=decide_eq_false hle;have hall2:∀ j:Nat,1≤j→j < n + 1→Au (Ak s) j < GU l i j:=fun j j1 j2 => by
     by_cases hj:j < n
     ·exact hall.out j j1 hj
     ·obtain rfl:j = n:=by omega
      omega
    replace hall2:=zH hall2;have hw1:IntKind.i64.wrap ((n:Int) + 1) = (n:Int) + 1:=by rw [IntKind.wrap_i64] <;> omega
    go_wp2_with fail;go_roundw;case rel => exact ⟨n + 1,by omega,by omega,by go_num,hall2.out,hg.trans g5⟩
    case measure => simp [intOf];omega
  ·have hnb:decide ((n:Int)≤t.d) = false:=decide_eq_false hn;have hrn:r = 0:=by
    rw [hr.out];unfold CB;exact Gm (fun j hj => by
     rw [decide_eq_false];have:=hall.out (j + 1) (by omega) (by omega);rw [show ((j + 1:Nat):Int) = (j:Int) + 1 by omega] at this;omega)
   replace hrn:=zH hrn;go_wp2_with fail;go_ret;exact ⟨by rw [hrn.out];rfl,gA⟩
theorem Jk {s:Ao} {l:List AA} (hp:AE s = true) (hg:AW 1 l = true) (hok:AF l = true):Bb s 1 l = none ↔ (BU s (Aq l) (BL l + Bg l) = true∧∀ n:Nat,1≤n→n≤4096→A3 l n≤Au (Ak s) n):=by
 unfold Bb;rw [if_neg (by rw [hp];decide),if_neg (by rw [hg];decide),if_neg (by decide)];constructor
 ·intro h;split at h
  ·cases h
  ·rename_i h1;split at h
   ·cases h
   ·rename_i h2;refine ⟨by simpa using h1,fun n _ hn => KT hp hok (fun x x1 x2 hx => ?_) n hn⟩;have h3:=F3.1 (by simpa using h2) x.toNat (by omega);rw [show ((x.toNat:Nat):Int) = x by omega] at h3;exact h3 hx
 ·rintro ⟨h1,h2⟩;rw [if_neg (by rw [h1];decide),if_neg];rw [Bool.not_eq_false,F3];intro n hn hd;exact h2 n (by have:=FD hok hd;omega) hn
theorem Og {s:Ao} {l:List AA} {i:Nat} {t:AA} (ht:l[i]? = some t) (h:CB s l i t.d.toNat = 0):DP s l = false:=by
 rw [← Bool.not_eq_true];intro hf;unfold DP at hf;rw [List.all_eq_true] at hf;have:=hf i (List.mem_range.2 (AQ ht));rw [FV ht] at this;simp [h] at this
theorem M7 {s:Ao} {l:List AA} (h:∀ (i:Nat) (t:AA),l[i]? = some t→CB s l i t.d.toNat ≠ 0):DP s l = true:=by
 unfold DP;rw [List.all_eq_true];intro i hi;obtain ⟨t,ht⟩:=Ac l i (List.mem_range.1 hi);rw [FV ht];exact decide_eq_true (h i t ht)
theorem Jb (s:Ao) (p:Int) (a:Option Addr) (l:List AA) (c:Nat) (w:World) (hp:AE s = false) :
 Calls Tryz.prog 59 #[.agg #[.int .i64 s.k,.int .i64 s.q,.int .i64 s.t],.int .i64 p,.slice a l.length c] w fun e w' => e = .returned (.int .i64 10)∧Gr w w':=by
 obtain ⟨W,hW⟩:=zE (w.alloc (.cells #[.int .i64 s.k,.int .i64 s.q,.int .i64 s.t] 29));have gW:Gr w W:=by rw [hW];exact (Gr.refl w).alloc _
 have hB:Ag W (w.heap.size) #[.int .i64 s.k,.int .i64 s.q,.int .i64 s.t] 29:=by
  rw [hW];exact Ag.n0
 have hWz:W.heap.size = w.heap.size + 1:=by rw [hW];simp
 obtain ⟨b0,b1,b2⟩:=hB.c3;have hlg:=fun w' => B3 s w'
 rw [hp] at hlg;refine B0 ?_ hW hB hlg hp;clear hW hB hlg hp;intro hW hB hlg hp;go_enter Tryz.func59,Tryz.ntmps59;go_upto_region 1 with fail
 rw [← hW.out];go_wp2_with fail;refine (hlg.out W).mono ?_;rintro e w1 ⟨rfl,g1⟩;clear b0 b1 b2;have gA1:=gW.trans g1;go_wp2_with fail;go_ret;exact ⟨rfl,gA1⟩
theorem Jc (s:Ao) (p:Int) (a:Option Addr) (l:List AA) (c:Nat) (w:World) (hp:AE s = true) (hl:A1 w a l) (hm:l.length≤maxLen) (hg:AW p l = false) :
 Calls Tryz.prog 59 #[.agg #[.int .i64 s.k,.int .i64 s.q,.int .i64 s.t],.int .i64 p,.slice a l.length c] w fun e w' => e = .returned (.int .i64 11)∧Gr w w':=by
 obtain ⟨W,hW⟩:=zE (w.alloc (.cells #[.int .i64 s.k,.int .i64 s.q,.int .i64 s.t] 29));have gW:Gr w W:=by rw [hW];exact (Gr.refl w).alloc _
 have hB:Ag W (w.heap.size) #[.int .i64 s.k,.int .i64 s.q,.int .i64 s.t] 29:=by
  rw [hW];exact Ag.n0
 have hWz:W.heap.size = w.heap.size + 1:=by rw [hW];simp
 obtain ⟨b0,b1,b2⟩:=hB.c3;have hlg:=fun w' => B3 s w'
 rw [hp] at hlg;have hgl:=fun w' (g:Gr w w') => Cv p a l c w' (hl.gr g) hm
 rw [hg] at hgl;refine Fm ?_ hW hB hlg hp hgl hg hl;clear hW hB hlg hp hgl hg hl;intro hW hB hlg hp hgl hg hl;go_enter Tryz.func59,Tryz.ntmps59;go_upto_region 1 with fail
 rw [← hW.out];go_wp2_with fail;refine (hlg.out W).mono ?_;rintro e w1 ⟨rfl,g1⟩;clear b0 b1 b2;have gA1:=gW.trans g1;go_wp2_with fail;refine (hgl.out w1 gA1).mono ?_;rintro e w2 ⟨rfl,g2⟩;have gA2:=gA1.trans g2;go_wp2_with fail;go_ret;exact ⟨rfl,gA2⟩
theorem G9 (s:Ao) (a:Option Addr) (l:List AA) (c:Nat) (w:World) (hp:AE s = true) (hl:A1 w a l) (hm:l.length≤maxLen) (hg:AW 2 l = true) :
 Calls Tryz.prog 59 #[.agg #[.int .i64 s.k,.int .i64 s.q,.int .i64 s.t],.int .i64 2,.slice a l.length c] w (RkP (Bb s 2 l) w):=by
 obtain ⟨-,-,hok⟩:=(Bj 2 l).1 hg;have h8:=(Ay hok).2;have hge:Bb s 2 l = none ↔ DP s l = true:=by
  unfold Bb;rw [if_neg (by rw [hp];decide),if_neg (by rw [hg];decide),if_pos rfl];cases DP s l <;> simp
 obtain ⟨K,hK⟩:=zE (Bb s 2 l);rw [← hK] at hge ⊢;obtain ⟨W,hW⟩:=zE (w.alloc (.cells #[.int .i64 s.k,.int .i64 s.q,.int .i64 s.t] 29));have gW:Gr w W:=by rw [hW];exact (Gr.refl w).alloc _
 have hB:Ag W (w.heap.size) #[.int .i64 s.k,.int .i64 s.q,.int .i64 s.t] 29:=by
  rw [hW];exact Ag.n0
 have hWz:W.heap.size = w.heap.size + 1:=by rw [hW];simp
 obtain ⟨b0,b1,b2⟩:=hB.c3;have hlg:=fun w' => B3 s w'
 rw [hp] at hlg;have hgl:=fun w' (g:Gr w w') => Cv 2 a l c w' (hl.gr g) hm
 rw [hg] at hgl;have hrs:=fun (i:Nat) (t:AA) (w':World) (g:Gr w w') (ht:l[i]? = some t) => JQ s a l c i t w' hp (hl.gr g) hok ht
 refine Br ?_ hW hB hlg hp hgl hg hl hge;clear hW hB hlg hp hgl hg hl hge;intro hW hB hlg hp hgl hg hl hge;refine AZ ?_ hK hok hrs;clear hK hok hrs;intro hK hok hrs;go_enter Tryz.func59,Tryz.ntmps59;go_upto_region 1 with fail
 rw [← hW.out];go_wp2_with fail;refine (hlg.out W).mono ?_;rintro e w1 ⟨rfl,g1⟩;clear b0 b1 b2;have gA1:=gW.trans g1;go_wp2_with fail;refine (hgl.out w1 gA1).mono ?_;rintro e w2 ⟨rfl,g2⟩;have gA2:=gA1.trans g2;go_wp2_with fail;go_loopw [27] (fun iv wr => ∃ k:Nat,k≤l.length∧iv = .int .i64 k∧(∀ (i:Nat) (t:AA),i < k→l[i]? = some t→CB s l i t.d.toNat ≠ 0)∧Gr w2 wr) (fun iv _ => l.length - (intOf iv).toNat);case atStart => exact ⟨0,Nat.zero_le _,rfl,(fun i t h => by omega),Gr.refl _⟩
 case round =>
  obtain ⟨k,hk,rfl,hall,hgr⟩:=hrel;replace hall:=zH hall;have gA:=gA2.trans hgr;by_cases hlt:k < l.length
  ·obtain ⟨t,ht⟩:=Ac l k hlt;have tk:(k:Int) < l.length:=by omega
   have hBr:=((hB.out.gr g1).gr g2).gr hgr;obtain ⟨b0,b1,b2⟩:=hBr.c3;have hc:=hrs.out k t wr gA ht;have hww:IntKind.i64.wrap ((k:Int) + 1) = (k:Int) + 1:=by rw [IntKind.wrap_i64] <;> omega
   refine AZ ?_ hBr hc ht;clear hBr hc ht;intro hBr hc ht;by_cases h0:CB s l k t.d.toNat = 0
   ·have h0b:(CB s l k t.d.toNat == 0) = true:=by simpa using h0
    replace h0:=zH h0;go_wp2_with fail;refine hc.out.mono ?_;rintro e w3 ⟨rfl,g3⟩;go_wp2_with fail;go_ret;exact ⟨12,rfl,⟨fun h => (by cases h),fun h => by have:=hge.out.1 h;rw [Og ht.out h0.out] at this;cases this⟩,gA.trans g3⟩
   ·have h0b:(CB s l k t.d.toNat == 0) = false:=by simpa using h0
    have hall2:∀ (i:Nat) (u:AA),i < k + 1→l[i]? = some u→CB s l i u.d.toNat ≠ 0:=fun i u hi hu => by
     by_cases hik:i < k
     ·exact hall.out i u hik hu
     ·obtain rfl:i = k:=by omega
      rw [ht.out] at hu;rw [← Option.some.inj hu];exact h0
    replace h0:=zH h0;replace hall2:=zH hall2;go_wp2_with fail;refine hc.out.mono ?_;rintro e w3 ⟨rfl,g3⟩;go_wp2_with fail;go_roundw;case rel => exact ⟨k + 1,by omega,by go_num,hall2.out,hgr.trans g3⟩
    case measure => simp [intOf];omega
  ·have tk:¬ (k:Int) < l.length:=by omega
   have tkb:decide ((k:Int) < l.length) = false:=decide_eq_false tk;have hfo:DP s l = true:=M7 (fun i t hi => hall.out i t (by have:=AQ hi;omega) hi);replace hfo:=zH hfo;go_wp2_with fail;go_ret;exact ⟨0,rfl,⟨fun _ => hge.out.2 hfo.out,fun _ => rfl⟩,gA⟩
theorem HX (s:Ao) (a:Option Addr) (l:List AA) (c:Nat) (w:World) (hp:AE s = true) (hl:A1 w a l) (hm:l.length≤maxLen) (hg:AW 1 l = true) :
 Calls Tryz.prog 59 #[.agg #[.int .i64 s.k,.int .i64 s.q,.int .i64 s.t],.int .i64 1,.slice a l.length c] w (RkP (Bb s 1 l) w):=by
 obtain ⟨-,-,hok⟩:=(Bj 1 l).1 hg;have h8:=(Ay hok).2;have hrun:=Jk hp hg hok;obtain ⟨K,hK⟩:=zE (Bb s 1 l);rw [← hK] at hrun ⊢;have hrow:=Be hp;have hg0:Au (Ak s) 0 = 0:=by
  have h1:=Bx hrow 0;have h2:=Dy hrow (l:=0) (Int.le_refl _);omega
 replace hg0:=zH hg0;have hsh:=D0 hok;have hqb:=DY hok;have hmb:=D8 hok;have hts:DW l = none:=by unfold DW;rw [if_neg (by rw [hok];decide)]
 have htk:∀ w',Gr w w'→Calls Tryz.prog 105 #[.slice a l.length c] w' fun e w'' => e = .returned (.tuple #[Eg (Aq l),.int .i64 0])∧Gr w' w'':=fun w' g => by
  have:=Mz a l c w' (hl.gr g) hm;rw [hts] at this;exact this
 obtain ⟨W,hW⟩:=zE (w.alloc (.cells #[.int .i64 s.k,.int .i64 s.q,.int .i64 s.t] 29));have gW:Gr w W:=by rw [hW];exact (Gr.refl w).alloc _
 have hB:Ag W (w.heap.size) #[.int .i64 s.k,.int .i64 s.q,.int .i64 s.t] 29:=by
  rw [hW];exact Ag.n0
 have hWz:W.heap.size = w.heap.size + 1:=by rw [hW];simp
 obtain ⟨b0,b1,b2⟩:=hB.c3;have hlg:=fun w' => B3 s w'
 rw [hp] at hlg;have hgl:=fun w' (g:Gr w w') => Cv 1 a l c w' (hl.gr g) hm
 rw [hg] at hgl;refine Br ?_ hW hB hlg hp hgl hg hl hrun;clear hW hB hlg hp hgl hg hl hrun;intro hW hB hlg hp hgl hg hl hrun;refine Br ?_ hK hok hrow hsh hqb hmb hts htk;clear hK hok hrow hsh hqb hmb hts htk;intro hK hok hrow hsh hqb hmb hts htk;go_enter Tryz.func59,Tryz.ntmps59;go_upto_region 1 with fail
 rw [← hW.out];go_wp2_with fail;refine (hlg.out W).mono ?_;rintro e w1 ⟨rfl,g1⟩;clear b0 b1 b2;have gA1:=gW.trans g1;go_wp2_with fail;refine (hgl.out w1 gA1).mono ?_;rintro e w2 ⟨rfl,g2⟩;have gA2:=gA1.trans g2;go_wp2_with fail;refine (htk.out w2 gA2).mono ?_;rintro e w3 ⟨rfl,g3⟩;obtain ⟨pb,hpb⟩:=zE w3.heap.size;obtain ⟨w4,hw4⟩:=zE (w3.alloc (.cells #[.int .u64 (AV (Aq l).1),.int .u64 (AR (Aq l).1),.int .u64 (AV (Aq l).2),.int .u64 (AR (Aq l).2)] 195));have g4:Gr w3 w4:=by rw [hw4];exact (Gr.refl _).alloc _
 have hP4:Ag w4 pb #[.int .u64 (AV (Aq l).1),.int .u64 (AR (Aq l).1),.int .u64 (AV (Aq l).2),.int .u64 (AR (Aq l).2)] 195:=by rw [hw4,hpb];exact Ag.new _ _ _
 have gA4:=(gA2.trans g3).trans g4;have hB4:=(((hB.out.gr g1).gr g2).gr g3).gr g4;refine B0 ?_ hpb hw4 hP4 hB4;clear hpb hw4 hP4 hB4;intro hpb hw4 hP4 hB4;go_upto_region 14 with fail
 rw [← hpb.out,← hw4.out];go_wp2_with fail;go_loopw [10,11,43] (fun sv mv iv wr => ∃ k:Nat,k≤l.length∧sv = .int .i64 (BL (l.take k))∧mv = .int .i64 (Bg (l.take k))∧iv = .int .i64 k∧Gr w4 wr) (fun _ _ iv _ => l.length - (intOf iv).toNat);case atStart => exact ⟨0,Nat.zero_le _,rfl,rfl,rfl,Gr.refl _⟩
 case round =>
  obtain ⟨k,hk,rfl,rfl,rfl,hgr⟩:=hrel;by_cases hlt:k < l.length
  ·obtain ⟨x,hx⟩:=Ac l k hlt;have hxl:=BQ hok.out hx;obtain ⟨ba,off,hag,hba2,d0,d1,d2,d3⟩:=(hl.out.gr (gA4.trans hgr)) k x hx;subst hag;have tk:(k:Int) < l.length:=by omega
   have hs1:BL (l.take (k + 1)) = BL (l.take k) + x.c:=by unfold BL;rw [Ae hx,A6]
   have hm1:Bg (l.take (k + 1)) = max (Bg (l.take k)) x.s:=by rw [Ae hx,DK]
   have hq1:=hqb.out k;have hq2:=hqb.out (k + 1);have hx1:=hmb.out k;obtain ⟨x1,x2,x3,x4,x5,x6⟩:=hxl;have hww:IntKind.i64.wrap (BL (l.take k) + x.c) = BL (l.take k) + x.c:=by rw [IntKind.wrap_i64] <;> omega
   have hwk:IntKind.i64.wrap ((k:Int) + 1) = (k:Int) + 1:=by rw [IntKind.wrap_i64] <;> omega
   obtain ⟨q1,q2⟩:=hq1;obtain ⟨q3,q4⟩:=hq2;obtain ⟨m1,m2⟩:=hx1;replace hx:=zH hx;replace hs1:=zH hs1;by_cases hmx:Bg (l.take k) < x.s
   ·have hmb2:decide (Bg (l.take k) < x.s) = true:=decide_eq_true hmx;have hm3:Bg (l.take (k + 1)) = x.s:=by omega
    clear hm1;replace hm3:=zH hm3;go_wp2_with fail;go_roundw;case rel => exact ⟨k + 1,by omega,by rw [hs1.out],by rw [hm3.out],by go_num,hgr.alloc _⟩
    case measure => simp [intOf];omega
   ·have hmb2:decide (Bg (l.take k) < x.s) = false:=decide_eq_false hmx;have hm3:Bg (l.take (k + 1)) = Bg (l.take k):=by omega
    clear hm1;replace hm3:=zH hm3;go_wp2_with fail;go_roundw;case rel => exact ⟨k + 1,by omega,by rw [hs1.out],by rw [hm3.out],by go_num,hgr.alloc _⟩
    case measure => simp [intOf];omega
  ·have hkl:k = l.length:=by omega
   have ti:¬ (k:Int) < l.length:=by omega
   have tib:decide ((k:Int) < l.length) = false:=decide_eq_false ti;have hsq:BL (l.take k) = BL l:=by rw [hkl,List.take_length]
   have hsm:Bg (l.take k) = Bg l:=by rw [hkl,List.take_length]
   have hq1:=hqb.out l.length;have hq2:=hmb.out l.length;rw [List.take_length] at hq1 hq2;have hww:IntKind.i64.wrap (BL (l.take k) + Bg (l.take k)) = BL (l.take k) + Bg (l.take k):=by rw [IntKind.wrap_i64,hsq,hsm] <;> omega
   have hlc:=fun w' => Ho s (Aq l) (BL (l.take k) + Bg (l.take k)) w' hp.out hsh.out (by rw [hsq,hsm];omega) (by rw [hsq,hsm];omega)
   have hlq:BU s (Aq l) (BL (l.take k) + Bg (l.take k)) = BU s (Aq l) (BL l + Bg l):=by rw [hsq,hsm]
   rw [hlq] at hlc;have hBx:=hB4.out.gr hgr;have hPx:=hP4.out.gr hgr;have gAx:=gA4.trans hgr;obtain ⟨b0,b1,b2⟩:=hBx.c3;obtain ⟨p0,p1,p2,p3⟩:=hPx.c4;cases hlb:BU s (Aq l) (BL l + Bg l) with
   | false =>
    rw [hlb] at hlc;refine Br ?_ hlc hBx hPx hkl hsq hsm hlb hlq;clear hlc hBx hPx hkl hsq hsm hlb hlq;intro hlc hBx hPx hkl hsq hsm hlb hlq;go_wp2_with fail;refine (hlc.out wr).mono ?_;rintro e w5 ⟨rfl,g5⟩;clear b0 b1 b2 p0 p1 p2 p3;have gA5:=gAx.trans g5;go_wp2_with fail;go_ret;exact ⟨12,rfl,⟨fun h => (by cases h),fun h => by have:=(hrun.out.1 h).1;rw [hlb.out] at this;cases this⟩,gA5⟩
   | true =>
    rw [hlb] at hlc;refine Br ?_ hlc hBx hPx hkl hsq hsm hlb hlq;clear hlc hBx hPx hkl hsq hsm hlb hlq;intro hlc hBx hPx hkl hsq hsm hlb hlq;go_wp2_with fail;refine (hlc.out wr).mono ?_;rintro e w5 ⟨rfl,g5⟩;clear b0 b1 b2 p0 p1 p2 p3;have gA5:=gAx.trans g5;have hB5:=hBx.out.gr g5;replace hB5:=zH hB5;go_wp2_with fail;go_loopw [14,15] (fun sv iv wr => ∃ n:Nat,1≤n∧n≤4097∧sv = .int .i64 (Au (Ak s) ((n:Int) - 1))∧iv = .int .i64 n∧(∀ j:Nat,1≤j→j < n→A3 l j≤Au (Ak s) j)∧Gr w5 wr) (fun _ iv _ => 4097 - (intOf iv).toNat);case atStart => exact ⟨1,by omega,by omega,by rw [show ((1:Nat):Int) - 1 = 0 by omega,hg0.out],rfl,(fun j h1 h2 => by omega),Gr.refl _⟩
    case round =>
     obtain ⟨n,n1,n2,rfl,rfl,hall,hg5⟩:=hrel;replace hall:=zH hall;obtain ⟨wo,rfl⟩:∃ wo:World,wo = wr:=⟨wr,rfl⟩
     by_cases hn:n≤4096
     ·have tn:(n:Int)≤4096:=by omega
      have tnb:decide ((n:Int)≤4096) = true:=decide_eq_true tn;have hwn:IntKind.i64.wrap ((n:Int) - 1) = (n:Int) - 1:=by rw [IntKind.wrap_i64] <;> omega
      have hst:=Fz hrow.out (i:=(n:Int) - 1);rw [show (n:Int) - 1 + 1 = n by omega] at hst;have hgb:=Bx hrow.out ((n:Int) - 1);have hgu:=Dy hrow.out (l:=(n:Int) - 1) (by omega);have hat:=HN s ((n:Int) - 1) wo hp.out (by omega) (by omega);have hB6:=hB5.out.gr hg5;obtain ⟨b0,b1,b2⟩:=hB6.c3;have gA6:=gA5.trans hg5;replace hB6:=zH hB6;cases ha:NB (Ak s) ((n:Int) - 1) with
      | true =>
       rw [ha] at hat hst;replace ha:=zH ha;replace hat:=zH hat;rw [if_pos rfl] at hst;have hw1:IntKind.i64.wrap (Au (Ak s) ((n:Int) - 1) + 1) = Au (Ak s) n:=by rw [hst,IntKind.wrap_i64] <;> omega
       replace hst:=zH hst;go_wp2_with fail;refine hat.out.mono ?_;rintro e w6 ⟨rfl,g6⟩;have hsv:=Fv a l c n w6 (hl.out.gr (gA6.trans g6)) hok.out ⟨by omega,by omega⟩;clear b0 b1 b2;by_cases tg:Au (Ak s) n < A3 l n
       ·have tgb:decide (Au (Ak s) n < A3 l n) = true:=decide_eq_true tg;replace hsv:=zH hsv;go_wp2_with fail;refine hsv.out.mono ?_;rintro e w7 ⟨rfl,g7⟩;go_wp2_with fail;go_ret;exact ⟨12,rfl,⟨fun h => (by cases h),fun h => by have h1:=(hrun.out.1 h).2 n n1 hn;omega⟩,(gA6.trans g6).trans g7⟩
       ·have tgb:decide (Au (Ak s) n < A3 l n) = false:=decide_eq_false tg;have hall2:∀ j:Nat,1≤j→j < n + 1→A3 l j≤Au (Ak s) j:=fun j j1 j2 => by
         by_cases hj:j < n
         ·exact hall.out j j1 hj
         ·obtain rfl:j = n:=by omega
          omega
        replace hall2:=zH hall2;replace hsv:=zH hsv;go_wp2_with fail;refine hsv.out.mono ?_;rintro e w7 ⟨rfl,g7⟩;go_wp2_with fail;go_roundw;case rel => exact ⟨n + 1,by omega,by omega,by rw [show ((n + 1:Nat):Int) - 1 = n by omega],by go_num,hall2.out,(hg5.trans g6).trans g7⟩
        case measure => simp [intOf];omega
      | false =>
       rw [ha] at hat hst;replace ha:=zH ha;replace hat:=zH hat;rw [if_neg (by decide),Int.add_zero] at hst;replace hst:=zH hst;go_wp2_with fail;refine hat.out.mono ?_;rintro e w6 ⟨rfl,g6⟩;have hsv:=Fv a l c n w6 (hl.out.gr (gA6.trans g6)) hok.out ⟨by omega,by omega⟩;clear b0 b1 b2;by_cases tg:Au (Ak s) ((n:Int) - 1) < A3 l n
       ·have tgb:decide (Au (Ak s) ((n:Int) - 1) < A3 l n) = true:=decide_eq_true tg;replace hsv:=zH hsv;go_wp2_with fail;refine hsv.out.mono ?_;rintro e w7 ⟨rfl,g7⟩;go_wp2_with fail;go_ret;exact ⟨12,rfl,⟨fun h => (by cases h),fun h => by have h1:=(hrun.out.1 h).2 n n1 hn;rw [hst.out] at h1;omega⟩,(gA6.trans g6).trans g7⟩
       ·have tgb:decide (Au (Ak s) ((n:Int) - 1) < A3 l n) = false:=decide_eq_false tg;have hall2:∀ j:Nat,1≤j→j < n + 1→A3 l j≤Au (Ak s) j:=fun j j1 j2 => by
         by_cases hj:j < n
         ·exact hall.out j j1 hj
         ·obtain rfl:j = n:=by omega
          rw [hst.out];omega
        replace hall2:=zH hall2;replace hsv:=zH hsv;go_wp2_with fail;refine hsv.out.mono ?_;rintro e w7 ⟨rfl,g7⟩;go_wp2_with fail;go_roundw;case rel => exact ⟨n + 1,by omega,by omega,by rw [show ((n + 1:Nat):Int) - 1 = n by omega];rw [hst.out],by go_num,hall2.out,(hg5.trans g6).trans g7⟩
        case measure => simp [intOf];omega
     ·have tn:¬ (n:Int)≤4096:=by omega
      have tnb:decide ((n:Int)≤4096) = false:=decide_eq_false tn;go_wp2_with fail;go_ret;exact ⟨0,rfl,⟨fun _ => hrun.out.2 ⟨hlb.out,fun j j1 j2 => hall.out j j1 (by omega)⟩,fun _ => rfl⟩,gA5.trans hg5⟩
theorem Jd (s:Ao) (p:Int) (a:Option Addr) (l:List AA) (c:Nat) (w:World) (hl:A1 w a l) (hm:l.length≤maxLen) :
 Calls Tryz.prog 59 #[.agg #[.int .i64 s.k,.int .i64 s.q,.int .i64 s.t],.int .i64 p,.slice a l.length c] w (RkP (Bb s p l) w):=by
 cases hp:AE s with
 | false =>
  have hk:Bb s p l = some 9:=by unfold Bb;rw [if_pos hp]
  rw [hk];exact (Jb s p a l c w hp).mono fun _ _ ⟨h1,h2⟩ => ⟨10,h1,⟨fun h => (by cases h),fun h => (by cases h)⟩,h2⟩
 | true =>
  cases hg:AW p l with
  | false =>
   have hk:Bb s p l = some 10:=by unfold Bb;rw [if_neg (by rw [hp];decide),if_pos hg]
   rw [hk];exact (Jc s p a l c w hp hl hm hg).mono fun _ _ ⟨h1,h2⟩ => ⟨11,h1,⟨fun h => (by cases h),fun h => (by cases h)⟩,h2⟩
  | true =>
   rcases ((Bj p l).1 hg).1 with rfl | rfl
   ·exact HX s a l c w hp hl hm hg
   ·exact G9 s a l c w hp hl hm hg
theorem It (T:TM) (w:World) (hT:Av Any w T) :
 Calls Tryz.prog 48 #[.agg T.row] w (NewT T.v w):=by
 obtain ⟨i36,hi,hz0,hz1,hz2⟩:=info_parts Tryz.infoNd;obtain ⟨i72,hj,hy0,hy1,hy2⟩:=info_parts Tryz.infoTsk;obtain ⟨i44,hgi,hv0,hv1,hv2⟩:=info_parts Tryz.infoGh;obtain ⟨W,hW⟩:=zE ((w.alloc (.cells T.row 27)).alloc (.cells #[.slice none 0 0,.slice none 0 0,.int .i64 0,.int .i64 0] 27));have gW:Gr w W:=by rw [hW];exact ((Gr.refl w).alloc _).alloc _
 have hO:Ag W w.heap.size T.row 27:=by rw [hW];exact (Ag.new w _ _).alloc _
 have hR:Ag W (w.heap.size + 1) #[.slice none 0 0,.slice none 0 0,.int .i64 0,.int .i64 0] 27:=by
  rw [hW];exact Ag.n1
 have hWz:W.heap.size = w.heap.size + 2:=by rw [hW];simp
 have hTW:=hT.gr gW;obtain ⟨N,an,cn,G,ag,cg,last,now⟩:=T;obtain ⟨L,hLN⟩:=zE N;obtain ⟨h,hnn,hG,hgn,hl1,hl2⟩:=hTW;dsimp only at h hG hnn hgn hl1 hl2;rw [← hLN] at h hl1;have o0:=hO.cell (i:=0) (v:=.slice an L.length cn) (by rw [hLN];rfl);have hm:L.length * 72≤140737488351232:=by omega
 dsimp only [TM.row] at hO hR hW;rw [← hLN] at hO hW;refine B0 ?_ hW hO hR hT;clear hW hO hR hT;intro hW hO hR hT;have hWa:w.heap.size < W.heap.size:=by omega
 have hWb:w.heap.size + 1 < W.heap.size:=by omega
 replace hWz:=zH hWz;replace hG:=zH hG;dsimp only [TM.row];rw [← hLN];replace hLN:=zH hLN;go_enter Tryz.func48,Tryz.ntmps48;go_upto_region 1 with fail
 rw [← hW.out];go_wp2_with fail;clear o0;go_loopw [10,3] (fun iv v wr => ∃ (k:Nat) (L':List Ax),k≤L.length∧iv = .int .i64 k∧L'.length = k∧L'.map (·.e) = (L.take k).map (·.e)∧wr.ownsRow W.heap.size 39 7 v L'.length (L'.flatMap Ax.cells)∧(∀ x ∈ L',x.ok (fun b => W.heap.size≤b) wr∧∀ ad,x.a = some ad→x.e.tasks ≠ []→v.ownBlock ≠ some ad.block)∧(∀ x ∈ L',∀ ad,x.a = some ad→x.e.tasks ≠ []→∀ o,wr.frozen? ⟨ad.block,o,none⟩ = false)∧Gr W wr) (fun iv _ _ => L.length - (intOf iv).toNat);case atStart => exact ⟨0,[],Nat.zero_le _,rfl,rfl,rfl,Bw _ _ _ _ rfl _ (Nat.le_refl _),(fun _ h => by cases h),(fun _ h => by cases h),(Gr.refl _).alloc _⟩
 case round =>
  obtain ⟨k,L',hk,rfl,hlen,hmap,hown,hoks,hfr,hg⟩:=hrel;refine B0 ?_ hlen hmap hoks hfr;clear hlen hmap hoks hfr;intro hlen hmap hoks hfr;by_cases hlt:k < L.length
  ·obtain ⟨x,hx⟩:=Ac L k hlt;obtain ⟨b,off,rfl,hb,_,c0,c1,c2,c3,c4,c5,c6⟩:=(h.gr hg).get hx;have hxo:=(h.gr hg).2 x (AL hx);have hxm:=Hl hxo;replace hx:=zH hx;have hx32:x.e.tasks.length * 32≤140737488355328:=by omega
   have hx63:x.e.tasks.length≤maxLen:=by unfold maxLen;omega
   go_upto_region 6 with (at_builtin;refine Cl (k:=4) (enc:=AA.cells) rfl _ _ 30 rfl 41 i72 _ 32 Tryz.underlying30 hj hy0 hy1 hy2 rfl (by decide) AA.cells_len AA.cells_one (wr.heap.size + 1) (by simp) rfl x.a x.c x.e.tasks rfl (hxo.gr ((Gr.refl wr).alloc x.obj)).1.1 hxo.2.1 hx63 hx32 ?_;intro v1 w1 hownt g1;obtain ⟨a1,d1,rfl,hrt,m1,hbt⟩:=Af AA.cells_len hownt;obtain ⟨k1,j1,s1⟩:=g1.cells;simp only [zL] at k1 j1 s1;have z1:wr.heap.size < w1.heap.size:=(by omega);have kk:=fun o => k1 wr.heap.size o (by omega);have jj:=fun o => j1 wr.heap.size o (by omega);clear k1 j1)
   obtain ⟨q1,q2⟩:=CD hownt rfl;have r1:AC (fun b => (wr.alloc x.obj).heap.size≤b) 4 AA.cells w1 a1 x.e.tasks:=⟨hrt,fun y hy _ => hbt y hy⟩
   have fr1:∀ ad,a1 = some ad→x.e.tasks ≠ []→∀ o,w1.frozen? ⟨ad.block,o,none⟩ = false:=fun ad ha _ o => BE hownt ha o
   replace fr1:=zH fr1;clear hownt hrt hbt;have gW:Gr wr (w1.setCell ⟨wr.heap.size,6,none⟩ (.slice a1 x.e.tasks.length d1)):=(((Gr.refl wr).alloc x.obj).trans g1).setCell (Nat.le_refl _) _;have hown2:=As hown gW;have hl63:L'.length + 1≤maxLen:=by rw [hlen.out];unfold maxLen;omega
   have hby:(L'.length + 1) * 72≤140737488355328:=by rw [hlen.out];omega
   have n3:W.heap.size≤(w1.setCell ⟨wr.heap.size,6,none⟩ (.slice a1 x.e.tasks.length d1)).heap.size:=by have:=hg.size;simp;omega
   have hrec:=An Ax.cells_len (w1.setCell ⟨wr.heap.size,6,none⟩ (.slice a1 x.e.tasks.length d1)) [⟨x.e,a1,d1⟩] 39 (List.toArray (x.e.cells a1 d1)) (by simp);rw [World.size_setCell] at hrec;have hbl:=Ar hown;replace hbl:=zH hbl;go_wp2_with (at_builtin;refine AP (k:=7) (enc:=Ax.cells) rfl _ _ 24 rfl W.heap.size 39 i36 _ 72 Tryz.underlying24 hi hz0 hz1 hz2 rfl (by decide) Ax.cells_len Ax.cells_one _ L' rfl (hown2.alloc _) w1.heap.size 1 ⟨x.e,a1,d1⟩ rfl hrec hl63 hby (BG n3 _) ?_;intro v1 w2 hown1 hgr1 hat);have gW2:Gr wr ((w1.setCell ⟨wr.heap.size,6,none⟩ (.slice a1 x.e.tasks.length d1)).alloc (Ax.obj ⟨x.e,a1,d1⟩)):=gW.alloc _;have hg2:Gr W w2:=(hg.trans gW2).grown hgr1 (fun g hg' => (hbl.out g hg').2);have hx1:Al 4 AA.cells ((w1.setCell ⟨wr.heap.size,6,none⟩ (.slice a1 x.e.tasks.length d1)).alloc (Ax.obj ⟨x.e,a1,d1⟩)) a1 x.e.tasks:=by
    have hr1:=r1.grx (T:=[wr.heap.size]) (((Aw.refl [wr.heap.size] w1).set (.inl (List.mem_singleton.2 rfl)) (.slice a1 x.e.tasks.length d1):Aw [wr.heap.size] w1 (w1.setCell ⟨wr.heap.size,6,none⟩ (.slice a1 x.e.tasks.length d1))).alloc (Ax.obj ⟨x.e,a1,d1⟩)) (fun y hy => by rw [List.mem_singleton.1 hy];simp);exact hr1.1
   have hnew:∀ ad,a1 = some ad→x.e.tasks ≠ []→wr.heap.size < ad.block:=fun ad h1 h2 => by have:=r1.2 ad h1 h2;simp at this;omega
   have hoks2:∀ y ∈ L' ++ [⟨x.e,a1,d1⟩],y.ok (fun b => W.heap.size≤b) w2∧∀ ad,y.a = some ad→y.e.tasks ≠ []→v1.ownBlock ≠ some ad.block:=by
    intro y hy;rcases List.mem_append.1 hy with hy | hy
    ·obtain ⟨o1,o2⟩:=hoks.out y hy;refine ⟨(o1.gr gW2).grown hgr1 o2,fun ad ha ht => ?_⟩;rcases hat with hat | hat
     ·rw [hat];exact o2 ad ha ht
     ·rw [hat];intro e;have e2:((w1.setCell ⟨wr.heap.size,6,none⟩ (.slice a1 x.e.tasks.length d1)).alloc (Ax.obj ⟨x.e,a1,d1⟩)).heap.size = ad.block:=Option.some.inj e;have e3:=o1.1.1.lt ha ht;have e4:=gW2.size;omega
    ·rw [List.mem_singleton.1 hy];refine ⟨⟨⟨hx1.grown hgr1 (fun ad ha ht e => ?_),fun ad ha ht => ?_⟩,m1,q1,q2,hxm⟩,fun ad ha ht e => ?_⟩
     ·have:=(hbl.out _ e).1;have:=hnew ad ha ht;omega
     ·have:=hnew ad ha ht;have:=hg.size;omega
     ·rcases hat with hat | hat
      ·rw [hat] at e;have:=(hbl.out _ e).1;have:=hnew ad ha ht;omega
      ·rw [hat] at e;have e2:((w1.setCell ⟨wr.heap.size,6,none⟩ (.slice a1 x.e.tasks.length d1)).alloc (Ax.obj ⟨x.e,a1,d1⟩)).heap.size = ad.block:=Option.some.inj e;have e3:=hx1.lt ha ht;omega
   have hfr2:∀ y ∈ L' ++ [⟨x.e,a1,d1⟩],∀ ad,y.a = some ad→y.e.tasks ≠ []→∀ o,w2.frozen? ⟨ad.block,o,none⟩ = false:=by
    intro y hy ad ha ht o;rcases List.mem_append.1 hy with hy | hy
    ·obtain ⟨o1,o2⟩:=hoks.out y hy;have e3:=o1.1.1.lt ha ht;rw [hgr1.frozen_far ⟨ad.block,o,none⟩ (Nat.lt_of_lt_of_le e3 gW2.size) (fun e => o2 ad ha ht e.symm),gW2.cells.2.1 _ _ e3];exact hfr.out y hy ad ha ht o
    ·rw [List.mem_singleton.1 hy] at ha ht;have e3:=hx1.lt ha ht;have e4:=r1.1.lt ha ht;rw [hgr1.frozen_far ⟨ad.block,o,none⟩ e3 (fun e => by have h5:ad.block < wr.heap.size:=(hbl.out _ e.symm).1;have:=hnew ad ha ht;omega)];rw [((Gr.refl (w1.setCell ⟨wr.heap.size,6,none⟩ (.slice a1 x.e.tasks.length d1))).alloc (Ax.obj ⟨x.e,a1,d1⟩)).cells.2.1 _ _ (by simpa using e4)];rw [World.frozen?_setCell];exact fr1.out ad ha ht o
   replace hfr2:=zH hfr2;clear hat hgr1 r1 hx1 hnew hbl hoks;have hmap2:(L' ++ [(⟨x.e,a1,d1⟩:Ax)]).map (·.e) = (L.take (k + 1)).map (·.e):=by rw [Ae hx.out,List.map_append,List.map_append,hmap.out];rfl
   replace hmap2:=zH hmap2;replace hoks2:=zH hoks2;go_wp2_with fail;go_roundw;case rel => exact ⟨k + 1,L' ++ [⟨x.e,a1,d1⟩],by omega,by go_num,by rw [List.length_append,hlen.out];rfl,hmap2.out,hown1,hoks2.out,hfr2.out,hg2⟩
   case measure => simp [intOf];omega
  ·have hall:L.take k = L:=List.take_of_length_le (by omega);obtain ⟨a',c',hv,hr,hn,hbb⟩:=Af Ax.cells_len hown;have hL:L'.length = L.length:=by have:=hlen.out;omega
   subst hv;have hOr:=hO.out.gr hg;have hRr:=hR.out.gr hg;have o1:=hOr.cell (i:=1) (v:=.slice ag G.length cg) rfl;replace hOr:=zH hOr;replace hRr:=zH hRr;have hgz9:=hg.size;have hz9:w.heap.size < wr.heap.size:=by omega
   have hz8:w.heap.size + 1 < wr.heap.size:=by omega
   have hgl:G.length≤maxLen:=by unfold maxLen;omega
   have hgb:G.length * 40≤140737488355328:=by omega
   go_wp2_with (at_builtin;refine Cl (k:=5) (enc:=Gh.cells) rfl _ _ 25 rfl 43 i44 _ 40 Tryz.underlying25 hgi hv0 hv1 hv2 rfl (by decide) Gh.cells_len Gh.cells_one wr.heap.size rfl rfl ag cg G rfl (hG.out.grx (hg.x []) (fun _ h => by cases h)).1 hgn hgl hgb ?_;intro v2 w2 own2 g2;obtain ⟨a2,c2,rfl,hrg,m2,hbg⟩:=Af Gh.cells_len own2;have hO2:=hOr.out.gr g2;have hR2:=hRr.out.gr g2;obtain ⟨p0,p1,p2,p3⟩:=hO2.c4;have q0:=hR2.cell (i:=0) (v:=.slice none 0 0) rfl;have q1':=hR2.cell (i:=1) (v:=.slice none 0 0) rfl;have q2':=hR2.cell (i:=2) (v:=.int .i64 0) rfl;have q3:=hR2.cell (i:=3) (v:=.int .i64 0) rfl;have fo:=fun i => hO2.free i;have fr:=fun i => hR2.free i;(have hne:w.heap.size ≠ w.heap.size + 1:=by omega);refine Dn ?_ hO2 hR2 m2 own2 hown hr;clear hO2 hR2 m2 own2 hown hr;intro hO2 hR2 m2 own2 hown hr;clear o1;clear hrg hbg);have hOT:A5 W.heap.size w2 ⟨L',a',c',G,a2,c2,last,now⟩:=by
    have hgz:=hg.size;refine ⟨As (by rw [hL];rw [hL] at hown;exact hown.out) g2,CN own2.out hgz,fun x hx => (hoks.out x hx).1.gr g2,fun x hx ad ha ht => (hoks.out x hx).2 ad ha ht,fun x hx ad ha ht e => ?_,fun x hx ad ha ht o => ?_,by show L'.length≤1000000;omega,hl2⟩
    ·have h1:=(Ar own2.out _ e).2;have h2:=(hoks.out x hx).1.1.1.lt ha ht;omega
    ·rw [g2.cells.2.1 _ _ ((hoks.out x hx).1.1.1.lt ha ht)];exact hfr.out x hx ad ha ht o
   obtain ⟨w9,hw9⟩:=zE (((((((w2.setCell ⟨w.heap.size,0,none⟩ (.slice a' L.length c')).setCell ⟨w.heap.size,1,none⟩ (.slice a2 G.length c2)).setCell ⟨w.heap.size + 1,0,none⟩ (.slice a' L.length c')).setCell ⟨w.heap.size + 1,1,none⟩ (.slice a2 G.length c2)).setCell ⟨w.heap.size + 1,2,none⟩ (.int .i64 last)).setCell ⟨w.heap.size + 1,3,none⟩ (.int .i64 now)));rw [← hw9];have gx:Aw [w.heap.size,w.heap.size + 1] w2 w9:=by
    rw [hw9];exact ((((((Aw.refl _ _).set (.inl (by simp)) _).set (.inl (by simp)) _).set (.inl (by simp)) _).set (.inl (by simp)) _).set (.inl (by simp)) _).set (.inl (by simp)) _
   have hR9:Ag w9 (w.heap.size + 1) #[.slice a' L.length c',.slice a2 G.length c2,.int .i64 last,.int .i64 now] 27:=by
    rw [hw9];exact (((((hR2.out.other hne.symm _).other hne.symm _).set 0 _).set 1 _).set 2 _).set 3 _
   obtain ⟨d0,d1,d2,d3⟩:=hR9.c4;have hwz:=hWz.out;refine bodyPost_ret (v:=.agg #[.slice a' L.length c',.slice a2 G.length c2,.int .i64 last,.int .i64 now]) (by simp [results,Tryz.results48,go_sem,d0,d1,d2,d3]) rfl ?_;refine ⟨⟨L',a',c',G,a2,c2,last,now⟩,by rw [show TM.row ⟨L',a',c',G,a2,c2,last,now⟩ = #[.slice a' L'.length c',.slice a2 G.length c2,.int .i64 last,.int .i64 now] from rfl,hL],?_,(hOT.grx gx (fun y hy => by simp at hy;omega)).base (by omega),gx.all (gW.trans (hg.trans g2)) (fun y hy => by simp at hy;omega)⟩;show Ab.mk _ _ _ _ = Ab.mk _ _ _ _;rw [hmap.out,hall]
structure Ek (w:World) (C:Array Value) (wx:World) (T:TM):Prop where
 o:Ag wx w.heap.size T.row 27
 c:Ag wx (w.heap.size + 1) C 32
 p:Ag wx (w.heap.size + 1 + 1) #[.slice none 0 0,.slice none 0 0,.int .i64 0,.int .i64 0] 27
 r:Ag wx (w.heap.size + 1 + 1 + 1) #[.int .i64 0,.int .i64 0] 34
 t:A5 (w.heap.size + 4) wx T
 g:Gr w wx
 z:w.heap.size + 4≤wx.heap.size
theorem Ek.gr {w wx wy:World} {C:Array Value} {T:TM} (h:Ek w C wx T) (g:Gr wx wy):Ek w C wy T:=⟨h.o.gr g,h.c.gr g,h.p.gr g,h.r.gr g,h.t.gr g,h.g.trans g,Nat.le_trans h.z g.size⟩
theorem Es {w w4 wf:World} {T:TM} {c i:Int} (hp:Ag w4 (w.heap.size + 1 + 1) #[.slice none 0 0,.slice none 0 0,.int .i64 0,.int .i64 0] 27) (hr:Ag w4 (w.heap.size + 1 + 1 + 1) #[.int .i64 0,.int .i64 0] 34) (ht:A5 (w.heap.size + 4) w4 T) (hg:Gr w w4) (hw:wf = (((((w4.setCell ⟨w.heap.size + 1 + 1,0,none⟩ (.slice T.an T.N.length T.cn)).setCell ⟨w.heap.size + 1 + 1,1,none⟩ (.slice T.ag T.G.length T.cg)).setCell ⟨w.heap.size + 1 + 1,2,none⟩ (.int .i64 T.last)).setCell ⟨w.heap.size + 1 + 1,3,none⟩ (.int .i64 T.now)).setCell ⟨w.heap.size + 1 + 1 + 1,0,none⟩ (.int .i64 c)).setCell ⟨w.heap.size + 1 + 1 + 1,1,none⟩ (.int .i64 i)) :
 Ag wf (w.heap.size + 1 + 1) T.row 27∧Ag wf (w.heap.size + 1 + 1 + 1) #[.int .i64 c,.int .i64 i] 34∧A5 w.heap.size wf T∧Gr w wf:=by
 have gx:Aw [w.heap.size + 1 + 1,w.heap.size + 1 + 1 + 1] w4 wf:=by
  rw [hw];exact ((((((Aw.refl _ _).set (.inl (by simp)) _).set (.inl (by simp)) _).set (.inl (by simp)) _).set (.inl (by simp)) _).set (.inl (by simp)) _).set (.inl (by simp)) _
 refine ⟨?_,?_,?_,gx.all hg (fun y hy => by simp at hy;omega)⟩
 ·rw [hw];exact (((((hp.set 0 (.slice T.an T.N.length T.cn)).set 1 (.slice T.ag T.G.length T.cg)).set 2 (.int .i64 T.last)).set 3 (.int .i64 T.now)).other (by show w.heap.size + 1 + 1 ≠ w.heap.size + 1 + 1 + 1;omega) _).other (by show w.heap.size + 1 + 1 ≠ w.heap.size + 1 + 1 + 1;omega) _
 ·rw [hw];have h1:w.heap.size + 1 + 1 + 1 ≠ w.heap.size + 1 + 1:=by omega
  exact (((((hr.other (a:=⟨w.heap.size + 1 + 1,0,none⟩) h1 _).other (a:=⟨w.heap.size + 1 + 1,1,none⟩) h1 _).other (a:=⟨w.heap.size + 1 + 1,2,none⟩) h1 _).other (a:=⟨w.heap.size + 1 + 1,3,none⟩) h1 _).set 0 (.int .i64 c)).set 1 (.int .i64 i)
 ·exact (ht.grx gx (fun y hy => by simp at hy;omega)).base (by omega)
theorem Bd {w w4 wf:World} {C:Array Value} {T:TM} {c i:Int} (h:Ek w C w4 T) (hw:wf = (((((w4.setCell ⟨w.heap.size + 1 + 1,0,none⟩ (.slice T.an T.N.length T.cn)).setCell ⟨w.heap.size + 1 + 1,1,none⟩ (.slice T.ag T.G.length T.cg)).setCell ⟨w.heap.size + 1 + 1,2,none⟩ (.int .i64 T.last)).setCell ⟨w.heap.size + 1 + 1,3,none⟩ (.int .i64 T.now)).setCell ⟨w.heap.size + 1 + 1 + 1,0,none⟩ (.int .i64 c)).setCell ⟨w.heap.size + 1 + 1 + 1,1,none⟩ (.int .i64 i)) :
 Ag wf (w.heap.size + 1 + 1) T.row 27∧Ag wf (w.heap.size + 1 + 1 + 1) #[.int .i64 c,.int .i64 i] 34∧A5 w.heap.size wf T∧Gr w wf:=Es h.p h.r h.t h.g hw
theorem KG {t:Ab} {o:A8} (h:o.kd < 1 ∨ 4 < o.kd ∨ o.at_ < 0 ∨ 1099511627776 < o.at_):t.apply o = (t,7,0):=by
 unfold Ab.apply;rw [if_pos h]
theorem La (T:TM) (w:World) (hT:Av Any w T) (o:A8) (oa:Option Addr) (oc:Nat) (hb:o.kd < 1 ∨ 4 < o.kd ∨ o.at_ < 0 ∨ 1099511627776 < o.at_) :
 Calls Tryz.prog 14 #[.agg T.row,.agg #[.int .i64 o.kd,.int .i64 o.id,.int .i64 o.srv.k,.int .i64 o.srv.q,.int .i64 o.srv.t,.int .i64 o.pol,.slice oa o.tasks.length oc,.int .i64 o.at_]] w (DA (T.v.apply o) w):=by
 have hval:=KG (t:=T.v) hb;replace hval:=zH hval;obtain ⟨V,hV⟩:=zE (T.v.apply o);rw [← hV];obtain ⟨W,hW⟩:=zE ((((w.alloc (.cells #[.slice T.an T.N.length T.cn,.slice T.ag T.G.length T.cg,.int .i64 T.last,.int .i64 T.now] 27)).alloc (.cells #[.int .i64 o.kd,.int .i64 o.id,.int .i64 o.srv.k,.int .i64 o.srv.q,.int .i64 o.srv.t,.int .i64 o.pol,.slice oa o.tasks.length oc,.int .i64 o.at_] 32)).alloc (.cells #[.slice none 0 0,.slice none 0 0,.int .i64 0,.int .i64 0] 27)).alloc (.cells #[.int .i64 0,.int .i64 0] 34));have gW:Gr w W:=by rw [hW];exact ((((Gr.refl w).alloc _).alloc _).alloc _).alloc _
 have hO:Ag W (w.heap.size) #[.slice T.an T.N.length T.cn,.slice T.ag T.G.length T.cg,.int .i64 T.last,.int .i64 T.now] 27:=by
  rw [hW];exact (((Ag.n0).alloc _).alloc _).alloc _
 have hC:Ag W (w.heap.size + 1) #[.int .i64 o.kd,.int .i64 o.id,.int .i64 o.srv.k,.int .i64 o.srv.q,.int .i64 o.srv.t,.int .i64 o.pol,.slice oa o.tasks.length oc,.int .i64 o.at_] 32:=by
  rw [hW];exact ((Ag.n1).alloc _).alloc _
 have hP:Ag W (w.heap.size + 1 + 1) #[.slice none 0 0,.slice none 0 0,.int .i64 0,.int .i64 0] 27:=by
  rw [hW];exact (Ag.n2).alloc _
 have hR:Ag W (w.heap.size + 1 + 1 + 1) #[.int .i64 0,.int .i64 0] 34:=by
  rw [hW];exact Ag.n3
 have hWz:W.heap.size = w.heap.size + 4:=by rw [hW];simp
 have hcp:=It T W (hT.gr gW);obtain ⟨o0,o1,o2,o3⟩:=hO.c4;refine Br ?_ hW hO hC hP hR hcp hT hV;clear hW hO hC hP hR hcp hT hV;intro hW hO hC hP hR hcp hT hV;go_enter Tryz.func14,Tryz.ntmps14;go_upto_region 1 with fail
 rw [← hW.out];go_wp2_with fail;refine hcp.out.mono ?_;rintro e w1 ⟨T1,rfl,hv1,hT1,g1⟩;have hO1:=hO.out.gr g1;have hC1:=hC.out.gr g1;have hP1:=hP.out.gr g1;have hR1:=hR.out.gr g1;have g1z:=g1.size;clear o0 o1 o2 o3;obtain ⟨o0,o1,o2,o3⟩:=hO1.c4;have fo:=fun i => hO1.free i
 refine Dn ?_ hO1 hC1 hP1 hR1 hT1 hv1;clear hO1 hC1 hP1 hR1 hT1 hv1;intro hO1 hC1 hP1 hR1 hT1 hv1;go_upto_region 2 with fail
 clear o0 o1 o2 o3 fo;obtain ⟨w2,hw2⟩:=zE ((((w1.setCell ⟨w.heap.size,0,none⟩ (.slice T1.an T1.N.length T1.cn)).setCell ⟨w.heap.size,1,none⟩ (.slice T1.ag T1.G.length T1.cg)).setCell ⟨w.heap.size,2,none⟩ (.int .i64 T1.last)).setCell ⟨w.heap.size,3,none⟩ (.int .i64 T1.now));rw [← hw2];have gxw2:Aw [w.heap.size] w1 w2:=by
  rw [hw2];exact (((((Aw.refl _ _).set (.inl (by simp)) _).set (.inl (by simp)) _).set (.inl (by simp)) _).set (.inl (by simp)) _)
 have hO2:Ag w2 (w.heap.size) #[.slice T1.an T1.N.length T1.cn,.slice T1.ag T1.G.length T1.cg,.int .i64 T1.last,.int .i64 T1.now] 27:=by
  rw [hw2];exact ((((hO1.out.set 0 (.slice T1.an T1.N.length T1.cn)).set 1 (.slice T1.ag T1.G.length T1.cg)).set 2 (.int .i64 T1.last)).set 3 (.int .i64 T1.now))
 have hC2:Ag w2 (w.heap.size + 1) #[.int .i64 o.kd,.int .i64 o.id,.int .i64 o.srv.k,.int .i64 o.srv.q,.int .i64 o.srv.t,.int .i64 o.pol,.slice oa o.tasks.length oc,.int .i64 o.at_] 32:=by
  rw [hw2];exact ((((hC1.out.other (a:=⟨w.heap.size,0,none⟩) (by show w.heap.size + 1 ≠ w.heap.size;omega) (.slice T1.an T1.N.length T1.cn)).other (a:=⟨w.heap.size,1,none⟩) (by show w.heap.size + 1 ≠ w.heap.size;omega) (.slice T1.ag T1.G.length T1.cg)).other (a:=⟨w.heap.size,2,none⟩) (by show w.heap.size + 1 ≠ w.heap.size;omega) (.int .i64 T1.last)).other (a:=⟨w.heap.size,3,none⟩) (by show w.heap.size + 1 ≠ w.heap.size;omega) (.int .i64 T1.now))
 have hP2:Ag w2 (w.heap.size + 1 + 1) #[.slice none 0 0,.slice none 0 0,.int .i64 0,.int .i64 0] 27:=by
  rw [hw2];exact ((((hP1.out.other (a:=⟨w.heap.size,0,none⟩) (by show w.heap.size + 1 + 1 ≠ w.heap.size;omega) (.slice T1.an T1.N.length T1.cn)).other (a:=⟨w.heap.size,1,none⟩) (by show w.heap.size + 1 + 1 ≠ w.heap.size;omega) (.slice T1.ag T1.G.length T1.cg)).other (a:=⟨w.heap.size,2,none⟩) (by show w.heap.size + 1 + 1 ≠ w.heap.size;omega) (.int .i64 T1.last)).other (a:=⟨w.heap.size,3,none⟩) (by show w.heap.size + 1 + 1 ≠ w.heap.size;omega) (.int .i64 T1.now))
 have hR2:Ag w2 (w.heap.size + 1 + 1 + 1) #[.int .i64 0,.int .i64 0] 34:=by
  rw [hw2];exact ((((hR1.out.other (a:=⟨w.heap.size,0,none⟩) (by show w.heap.size + 1 + 1 + 1 ≠ w.heap.size;omega) (.slice T1.an T1.N.length T1.cn)).other (a:=⟨w.heap.size,1,none⟩) (by show w.heap.size + 1 + 1 + 1 ≠ w.heap.size;omega) (.slice T1.ag T1.G.length T1.cg)).other (a:=⟨w.heap.size,2,none⟩) (by show w.heap.size + 1 + 1 + 1 ≠ w.heap.size;omega) (.int .i64 T1.last)).other (a:=⟨w.heap.size,3,none⟩) (by show w.heap.size + 1 + 1 + 1 ≠ w.heap.size;omega) (.int .i64 T1.now))
 have hS2:Ek w #[.int .i64 o.kd,.int .i64 o.id,.int .i64 o.srv.k,.int .i64 o.srv.q,.int .i64 o.srv.t,.int .i64 o.pol,.slice oa o.tasks.length oc,.int .i64 o.at_] w2 T1:=⟨hO2,hC2,hP2,hR2,(hT1.out.grx gxw2 (fun y hy => by rw [List.mem_singleton.1 hy];omega)).base (by omega),gxw2.all (gW.trans g1) (fun y hy => by rw [List.mem_singleton.1 hy];omega),by rw [hw2];simp only [World.size_setCell];omega⟩
 clear hO2 hC2 hP2 hR2 gxw2;replace hw2:=zH hw2;replace hWz:=zH hWz;clear hWz;obtain ⟨o0,o1,o2,o3⟩:=hS2.o.c4;obtain ⟨q0,q1,q2,q3,q4,q5,q6,q7⟩:=hS2.c.c8;replace hS2:=zH hS2;by_cases h0:o.kd < 1
 ·have tb0:decide (o.kd < 1) = true:=decide_eq_true h0;go_wp2_with fail;refine (Bf T1 7 w2).mono ?_;rintro e wz ⟨rfl,gz⟩;have hSz:=hS2.out.gr gz;obtain ⟨zp0,zp1,zp2,zp3⟩:=hSz.p.c4;obtain ⟨zr0,zr1⟩:=hSz.r.c2;have zfp:=fun i => hSz.p.free i
  have zfr:=fun i => hSz.r.free i
  replace hSz:=zH hSz;go_wp2_with fail;obtain ⟨wf,hwf⟩:=zE ((((((wz.setCell ⟨w.heap.size + 1 + 1,0,none⟩ (.slice T1.an T1.N.length T1.cn)).setCell ⟨w.heap.size + 1 + 1,1,none⟩ (.slice T1.ag T1.G.length T1.cg)).setCell ⟨w.heap.size + 1 + 1,2,none⟩ (.int .i64 T1.last)).setCell ⟨w.heap.size + 1 + 1,3,none⟩ (.int .i64 T1.now)).setCell ⟨w.heap.size + 1 + 1 + 1,0,none⟩ (.int .i64 7)).setCell ⟨w.heap.size + 1 + 1 + 1,1,none⟩ (.int .i64 0));rw [← hwf];obtain ⟨hPf,hRf,hTf,gWf⟩:=Bd hSz.out hwf;obtain ⟨zk0,zk1,zk2,zk3⟩:=hPf.c4;obtain ⟨zj0,zj1⟩:=hRf.c2;refine bodyPost_ret (v:=.tuple #[.agg T1.row,.agg #[.int .i64 7,.int .i64 0]]) (by simp [results,Tryz.results14,go_sem,zk0,zk1,zk2,zk3,zj0,zj1]) rfl ?_;refine ⟨T1,?_,?_,hTf,gWf⟩
  ·rw [hV.out,hval.out]
  ·rw [hV.out,hval.out];exact hv1.out
 ·have tb0:decide (o.kd < 1) = false:=decide_eq_false h0;by_cases h1:4 < o.kd
  ·have tb1:decide (4 < o.kd) = true:=decide_eq_true h1;go_wp2_with fail;refine (Bf T1 7 w2).mono ?_;rintro e wz ⟨rfl,gz⟩;have hSz:=hS2.out.gr gz;obtain ⟨zp0,zp1,zp2,zp3⟩:=hSz.p.c4;obtain ⟨zr0,zr1⟩:=hSz.r.c2;have zfp:=fun i => hSz.p.free i
   have zfr:=fun i => hSz.r.free i
   replace hSz:=zH hSz;go_wp2_with fail;obtain ⟨wf,hwf⟩:=zE ((((((wz.setCell ⟨w.heap.size + 1 + 1,0,none⟩ (.slice T1.an T1.N.length T1.cn)).setCell ⟨w.heap.size + 1 + 1,1,none⟩ (.slice T1.ag T1.G.length T1.cg)).setCell ⟨w.heap.size + 1 + 1,2,none⟩ (.int .i64 T1.last)).setCell ⟨w.heap.size + 1 + 1,3,none⟩ (.int .i64 T1.now)).setCell ⟨w.heap.size + 1 + 1 + 1,0,none⟩ (.int .i64 7)).setCell ⟨w.heap.size + 1 + 1 + 1,1,none⟩ (.int .i64 0));rw [← hwf];obtain ⟨hPf,hRf,hTf,gWf⟩:=Bd hSz.out hwf;obtain ⟨zk0,zk1,zk2,zk3⟩:=hPf.c4;obtain ⟨zj0,zj1⟩:=hRf.c2;refine bodyPost_ret (v:=.tuple #[.agg T1.row,.agg #[.int .i64 7,.int .i64 0]]) (by simp [results,Tryz.results14,go_sem,zk0,zk1,zk2,zk3,zj0,zj1]) rfl ?_;refine ⟨T1,?_,?_,hTf,gWf⟩
   ·rw [hV.out,hval.out]
   ·rw [hV.out,hval.out];exact hv1.out
  ·have tb1:decide (4 < o.kd) = false:=decide_eq_false h1;by_cases h2:o.at_ < 0
   ·have tb2:decide (o.at_ < 0) = true:=decide_eq_true h2;go_wp2_with fail;refine (Bf T1 7 w2).mono ?_;rintro e wz ⟨rfl,gz⟩;have hSz:=hS2.out.gr gz;obtain ⟨zp0,zp1,zp2,zp3⟩:=hSz.p.c4;obtain ⟨zr0,zr1⟩:=hSz.r.c2;have zfp:=fun i => hSz.p.free i
    have zfr:=fun i => hSz.r.free i
    replace hSz:=zH hSz;go_wp2_with fail;obtain ⟨wf,hwf⟩:=zE ((((((wz.setCell ⟨w.heap.size + 1 + 1,0,none⟩ (.slice T1.an T1.N.length T1.cn)).setCell ⟨w.heap.size + 1 + 1,1,none⟩ (.slice T1.ag T1.G.length T1.cg)).setCell ⟨w.heap.size + 1 + 1,2,none⟩ (.int .i64 T1.last)).setCell ⟨w.heap.size + 1 + 1,3,none⟩ (.int .i64 T1.now)).setCell ⟨w.heap.size + 1 + 1 + 1,0,none⟩ (.int .i64 7)).setCell ⟨w.heap.size + 1 + 1 + 1,1,none⟩ (.int .i64 0));rw [← hwf];obtain ⟨hPf,hRf,hTf,gWf⟩:=Bd hSz.out hwf;obtain ⟨zk0,zk1,zk2,zk3⟩:=hPf.c4;obtain ⟨zj0,zj1⟩:=hRf.c2;refine bodyPost_ret (v:=.tuple #[.agg T1.row,.agg #[.int .i64 7,.int .i64 0]]) (by simp [results,Tryz.results14,go_sem,zk0,zk1,zk2,zk3,zj0,zj1]) rfl ?_;refine ⟨T1,?_,?_,hTf,gWf⟩
    ·rw [hV.out,hval.out]
    ·rw [hV.out,hval.out];exact hv1.out
   ·have tb2:decide (o.at_ < 0) = false:=decide_eq_false h2;have h3:1099511627776 < o.at_:=by omega
    have tb3:decide (1099511627776 < o.at_) = true:=decide_eq_true h3;go_wp2_with fail;refine (Bf T1 7 w2).mono ?_;rintro e wz ⟨rfl,gz⟩;have hSz:=hS2.out.gr gz;obtain ⟨zp0,zp1,zp2,zp3⟩:=hSz.p.c4;obtain ⟨zr0,zr1⟩:=hSz.r.c2;have zfp:=fun i => hSz.p.free i
    have zfr:=fun i => hSz.r.free i
    replace hSz:=zH hSz;go_wp2_with fail;obtain ⟨wf,hwf⟩:=zE ((((((wz.setCell ⟨w.heap.size + 1 + 1,0,none⟩ (.slice T1.an T1.N.length T1.cn)).setCell ⟨w.heap.size + 1 + 1,1,none⟩ (.slice T1.ag T1.G.length T1.cg)).setCell ⟨w.heap.size + 1 + 1,2,none⟩ (.int .i64 T1.last)).setCell ⟨w.heap.size + 1 + 1,3,none⟩ (.int .i64 T1.now)).setCell ⟨w.heap.size + 1 + 1 + 1,0,none⟩ (.int .i64 7)).setCell ⟨w.heap.size + 1 + 1 + 1,1,none⟩ (.int .i64 0));rw [← hwf];obtain ⟨hPf,hRf,hTf,gWf⟩:=Bd hSz.out hwf;obtain ⟨zk0,zk1,zk2,zk3⟩:=hPf.c4;obtain ⟨zj0,zj1⟩:=hRf.c2;refine bodyPost_ret (v:=.tuple #[.agg T1.row,.agg #[.int .i64 7,.int .i64 0]]) (by simp [results,Tryz.results14,go_sem,zk0,zk1,zk2,zk3,zj0,zj1]) rfl ?_;refine ⟨T1,?_,?_,hTf,gWf⟩
    ·rw [hV.out,hval.out]
    ·rw [hV.out,hval.out];exact hv1.out
theorem Ek.box {w wx wy:World} {C:Array Value} {T T':TM} (h:Ek w C wx T) (g:Aw [w.heap.size] wx wy) (hO:Ag wy w.heap.size T'.row 27) (ht:A5 (w.heap.size + 4) wy T'):Ek w C wy T' :=
 ⟨hO,h.c.grx g (by simp),h.p.grx g (by simp;omega),h.r.grx g (by simp;omega),ht,g.all h.g (fun y hy => by rw [List.mem_singleton.1 hy];omega),Nat.le_trans h.z g.size⟩
theorem Ek.row {w wx wy:World} {C:Array Value} {T T':TM} {S:List Nat} (h:Ek w C wx T) (g:Aw S wx wy) (hS:∀ y,y ∈ S→w.heap.size + 4≤y) (hr:T'.row = T.row) (ht:A5 (w.heap.size + 4) wy T'):Ek w C wy T' :=
 ⟨by rw [hr];exact h.o.grx g (fun hm => by have:=hS _ hm;omega),h.c.grx g (fun hm => by have:=hS _ hm;omega),h.p.grx g (fun hm => by have:=hS _ hm;omega),h.r.grx g (fun hm => by have:=hS _ hm;omega),ht,g.all h.g (fun y hy => by have:=hS y hy;omega),Nat.le_trans h.z g.size⟩
theorem Hi {B:Nat} {w:World} {T:TM} (h:A5 B w T) {i:Nat} {x:Ax} (hx:T.N[i]? = some x):∃ rb,T.an = some ⟨rb,0,none⟩:=by
 have hi:=AQ hx;rcases h.n.2 with ⟨h1,h2⟩ | ⟨gb,cap,cur,h1,_⟩
 ·omega
 ·injection h1 with h1;exact ⟨gb,h1⟩
theorem JW {t t1:Ab} {o:A8} {x:Nd} (hz:t.loose o.id = 0) (hf:t.find o.id = some x) (h1:t1 = {t with nodes:=t.nodes.filter fun y => decide (y.id ≠ o.id),ghosts:=t.ghosts ++ [(⟨x.par,x.srv,0⟩:Gh)]}) (hk:Am ((t1.server x.par).getD AU) (t1.counted x.par) = none):t.remove o = (⟨t1.nodes,t.ghosts ++ [(⟨x.par,x.srv,t.now + Bo ((t1.server x.par).getD AU) (t1.counted x.par)⟩:Gh)],t1.last,t1.now⟩,0,o.id):=by
 subst h1;unfold Ab.remove;rw [if_neg (by rw [hz];simp),hf];dsimp only;rw [if_pos hk]
theorem A5.renode {B:Nat} {w w':World} {T:TM} (h:A5 B w T) (g:Gr w w') {M:List Ax} {a:Option Addr} {c:Nat} (hM:∀ x ∈ M,x ∈ T.N) (hN:w'.ownsRow B 39 7 (.slice a M.length c) M.length (M.flatMap Ax.cells)) (hd:∀ k,(Value.slice a M.length c).ownBlock = some k→w.heap.size≤k) (hl:M.length≤1000000):A5 B w' ⟨M,a,c,T.G,T.ag,T.cg,T.last,T.now⟩ :=
 ⟨hN,As h.g g,fun x hx => (h.k x (hM x hx)).gr g,fun x hx ad ha ht e => by have h1:=hd _ e;have h2:=(h.k x (hM x hx)).1.1.lt ha ht;omega,fun x hx => h.dg x (hM x hx),fun x hx ad ha ht o => by rw [g.cells.2.1 _ _ ((h.k x (hM x hx)).1.1.lt ha ht)];exact h.f x (hM x hx) ad ha ht o,hl,h.l2⟩
def H8 (N:List Ax) (id:Int) (k:Nat):List Ax:=(N.take k).filter fun x => decide (x.e.id ≠ id)
theorem Nh {N:List Ax} {id:Int} {k:Nat} {x:Ax} (hx:N[k]? = some x):H8 N id (k + 1) = H8 N id k ++ if x.e.id = id then [] else [x]:=by
 unfold H8;rw [Ae hx,List.filter_append];congr 1;by_cases h:x.e.id = id <;> simp [h]
theorem Kw (N:List Ax) (id:Int) (k:Nat):(H8 N id k).length≤k:=by
 unfold H8;have:=List.length_filter_le (fun x:Ax => decide (x.e.id ≠ id)) (N.take k);simp at this ⊢;omega
def EZ (G:List Gh) (n:Int) (k:Nat):List Gh:=(G.take k).filter fun g => decide (n < g.till)
theorem Ll {G:List Gh} {n:Int} {k:Nat} {x:Gh} (hx:G[k]? = some x):EZ G n (k + 1) = EZ G n k ++ if n < x.till then [x] else []:=by
 unfold EZ;rw [Ae hx,List.filter_append];congr 1;by_cases h:n < x.till <;> simp [h]
theorem ID (G:List Gh) (n:Int) (k:Nat):(EZ G n k).length≤k:=by
 unfold EZ;have:=List.length_filter_le (fun x:Gh => decide (n < x.till)) (G.take k);simp at this ⊢;omega
def Ht:Code→Option Nat
 | .region n _ _ => some n
 | .seq a _ => Ht a
 | .block _ c => Ht c
 | .scope c => Ht c
 | .loop c => Ht c
 | _ => none
def BA (n:Nat):Code→Option Code
 | .seq a b => if Ht a = some n then some (.seq a b) else match BA n a with
  | some c => some c
  | none => BA n b
 | .block _ c => BA n c
 | .scope c => BA n c
 | .cond _ a b => match BA n a with
  | some c => some c
  | none => BA n b
 | _ => none
def GS:Ax:=⟨⟨0,0,⟨0,0,0⟩,0,[]⟩,none,0⟩
def FndP (T:TM) (id:Int) (w:World) (e:Ending) (w':World):Prop:=∃ (x:Ax) (b:Bool),e = .returned (.tuple #[.agg #[.int .i64 x.e.id,.int .i64 x.e.par,.int .i64 x.e.srv.k,.int .i64 x.e.srv.q,.int .i64 x.e.srv.t,.int .i64 x.e.pol,.slice x.a x.e.tasks.length x.c],.bool b])∧(b = true→∃ i,Fl T.N id i x)∧(b = false→x = GS∧∀ y ∈ T.N,y.e.id ≠ id)∧Gr w w'
theorem NM (T:TM) (id:Int) (w:World) (h:Av Any w T):Calls Tryz.prog 50 #[.agg T.row,.int .i64 id] w (FndP T id w):=by
 rcases F2 T.N id with ⟨i,x,hf⟩ | hf
 ·refine (FU T id w h hf).mono ?_;rintro e w' ⟨rfl,g⟩;exact ⟨x,true,rfl,fun _ => ⟨i,hf⟩,fun h => (by cases h),g⟩
 ·refine (Ha T id w h hf).mono ?_;rintro e w' ⟨rfl,g⟩;exact ⟨GS,false,rfl,fun h => (by cases h),fun _ => ⟨rfl,hf⟩,g⟩
theorem LC {t:Ab} {o:A8} (h:¬ (o.kd < 1 ∨ 4 < o.kd ∨ o.at_ < 0 ∨ 1099511627776 < o.at_)):t.apply o = if o.kd = 1 then (t.tick o.at_).create o else if o.kd = 2 then (t.tick o.at_).resize o else if o.kd = 3 then (t.tick o.at_).remove o else (t.tick o.at_).bind o:=by
 unfold Ab.apply;rw [if_neg h]
end Go.Proofs.YtdfelohjdkcpkaaGreatDoor
