/- tree.index: the search in the middle. -/
import Derived.Test.YtdfelohjdkcpkaaGreatDoorKK10
set_option maxRecDepth 100000
set_option maxHeartbeats 3200000
namespace Go.Proofs.YtdfelohjdkcpkaaGreatDoor
open Go.RowKit
theorem Lw (a b:Int) (w:World):Calls Tryz.prog 139 #[.int .i64 a,.int .i64 b] w fun e w' => e = .returned (.int .i64 (BS a b))∧w = w':=by
 have hn:∀ x:Int,Calls Tryz.prog 193 #[.int .i64 x] w fun e w' => e = .returned (.bool false)∧w = w':=fun x => by
  go_enter Tryz.func193,Tryz.ntmps193;go_wp2;go_ret;exact ⟨rfl,rfl⟩
 unfold BS;by_cases h1:a < b
 ·rw [if_pos h1];go_enter Tryz.func139,Tryz.ntmps139;go_wp2_with (go_at_call 193;refine (hn _).mono ?_;rintro e w' ⟨rfl,rfl⟩);go_ret;exact ⟨rfl,rfl⟩
 ·by_cases h2:b < a
  ·rw [if_neg h1,if_pos h2];go_enter Tryz.func139,Tryz.ntmps139;go_wp2_with (go_at_call 193;refine (hn _).mono ?_;rintro e w' ⟨rfl,rfl⟩);go_ret;exact ⟨rfl,rfl⟩
  ·rw [if_neg h1,if_neg h2];go_enter Tryz.func139,Tryz.ntmps139;go_wp2_with (go_at_call 193;refine (hn _).mono ?_;rintro e w' ⟨rfl,rfl⟩);go_ret;exact ⟨rfl,rfl⟩
theorem Hs (x:Ax) (id:Int) (w:World):Calls Tryz.prog 207 #[.agg #[.int .i64 x.e.id,.int .i64 x.e.par,.int .i64 x.e.srv.k,.int .i64 x.e.srv.q,.int .i64 x.e.srv.t,.int .i64 x.e.pol,.slice x.a x.e.tasks.length x.c],.int .i64 id] w fun e w' => e = .returned (.int .i64 (BS x.e.id id))∧Gr w w':=by
 go_enter Tryz.func207,Tryz.ntmps207;go_wp2_with (go_at_call 139;refine (Lw _ _ _).mono ?_;rintro e w' ⟨rfl,rfl⟩);go_ret;exact ⟨rfl,(Gr.refl _).alloc _⟩
def IdxP (N:List Ax) (id:Int) (w:World) (e:Ending) (w':World):Prop:=∃ i:Nat,∃ b:Bool,e = .returned (.tuple #[.int .i64 i,.bool b])∧Gr w w'∧(b = true→∃ x,N[i]? = some x∧x.e.id = id)∧(b = false→∀ x ∈ N,x.e.id ≠ id)
theorem KY (K:Nat→Prop) (N:List Ax) (an:Option Addr) (cn:Nat) (id:Int) (w:World) (h:El K w an N) (hl:N.length≤1000000) (hs:∀ (i j:Nat) (x y:Ax),N[i]? = some x→N[j]? = some y→i < j→x.e.id < y.e.id) :
 Calls Tryz.prog 206 #[.slice an N.length cn,.int .i64 id,.func (.func 207) #[] #[]] w (IdxP N id w):=by
 replace hs:=zH hs;go_enter Tryz.func206,Tryz.ntmps206;go_wp2_with fail;go_loopw [9,10] (fun iv jv wr => ∃ i j:Nat,i≤j∧j≤N.length∧iv = .int .i64 i∧jv = .int .i64 j∧Hid ((∀ k x,k < i→N[k]? = some x→x.e.id < id)∧(∀ k x,j≤k→N[k]? = some x→id≤x.e.id))∧Gr w wr) (fun iv jv _ => (intOf jv).toNat - (intOf iv).toNat);case atStart => exact ⟨0,N.length,Nat.zero_le _,Nat.le_refl _,rfl,rfl,Lib.hid ⟨fun k x hk => by omega,fun k x hk hx => by have:=AQ hx;omega⟩,Gr.refl _⟩
 case round =>
  obtain ⟨i,j,hij,hj,rfl,rfl,hI,hg⟩:=hrel;by_cases hlt:i < j
  ·have m1:i≤(i + j) / 2:=by omega
   have m2:(i + j) / 2 < j:=by omega
   have m3:(i + j) / 2 < N.length:=by omega
   obtain ⟨x,hx⟩:=Ac N ((i + j) / 2) m3;obtain ⟨b,off,rfl,hb,-,c0,c1,c2,c3,c4,c5,c6⟩:=(h.gr hg).get hx;have ti:(i:Int) < j:=by omega
   have hix:=fun w' => Hs x id w'
   have hI1:=hI.out.1;have hI2:=hI.out.2;refine B0 ?_ hI1 hI2 hix hx;clear hI1 hI2 hix hx;intro hI1 hI2 hix hx;have e1:(((i + j) / 2:Nat):Int) = ((i:Int) + j) / 2:=by omega
   replace e1:=zH e1;by_cases hc:x.e.id < id
   ·have hcm:BS x.e.id id = -1:=by unfold BS;rw [if_pos hc]
    rw [hcm] at hix;replace hc:=zH hc;replace hcm:=zH hcm;go_wp2_with fail;refine (hix.out _).mono ?_;rintro e w2 ⟨rfl,g2⟩;go_wp2_with fail;go_roundw;case rel => exact ⟨(i + j) / 2 + 1,j,by omega,by omega,by have:=e1.out;go_num,rfl,Lib.hid ⟨fun k y hk hy => by
     by_cases hkm:k = (i + j) / 2
     ·rw [hkm,hx.out] at hy;obtain rfl:=Option.some.inj hy;exact hc.out
     ·have:=hs.out k ((i + j) / 2) y x hy hx.out (by omega);have:=hc.out;omega,hI2.out⟩,hg.trans g2⟩
    case measure => simp [intOf];omega
   ·have hcm:0≤BS x.e.id id:=by unfold BS;rw [if_neg hc];split <;> omega
    have hcn:¬ BS x.e.id id < 0:=by omega
    have hcb:decide (BS x.e.id id < 0) = false:=decide_eq_false hcn;obtain ⟨z,hz⟩:=zE (BS x.e.id id);rw [← hz] at hix hcn hcb;replace hc:=zH hc;replace hz:=zH hz;clear hcm;go_wp2_with fail;refine (hix.out _).mono ?_;rintro e w2 ⟨rfl,g2⟩;go_wp2_with fail;go_roundw;case rel => exact ⟨i,(i + j) / 2,by omega,by omega,rfl,by have:=e1.out;go_num,Lib.hid ⟨hI1.out,fun k y hk hy => by
     by_cases hkm:k = (i + j) / 2
     ·rw [hkm,hx.out] at hy;obtain rfl:=Option.some.inj hy;have:=hc.out;omega
     ·have:=hs.out ((i + j) / 2) k x y hx.out hy (by omega);have:=hc.out;omega⟩,hg.trans g2⟩
    case measure => simp [intOf];omega
  ·have hij2:i = j:=by omega
   have ti:¬ (i:Int) < j:=by omega
   have tib:decide ((i:Int) < j) = false:=decide_eq_false ti;by_cases hn:i < N.length
   ·obtain ⟨x,hx⟩:=Ac N i hn;obtain ⟨b,off,rfl,hb,-,c0,c1,c2,c3,c4,c5,c6⟩:=(h.gr hg).get hx;have hix:=fun w' => Hs x id w'
    have tn:(i:Int) < N.length:=by omega
    refine AZ ?_ hij2 hix hx;clear hij2 hix hx;intro hij2 hix hx;have hIi:=hI.out;replace hIi:=zH hIi;clear hI;by_cases hc:x.e.id = id
    ·have hcm:BS x.e.id id = 0:=by unfold BS;rw [if_neg (by omega),if_neg (by omega)]
     rw [hcm] at hix;replace hc:=zH hc;replace hcm:=zH hcm;go_wp2_with fail;refine (hix.out _).mono ?_;rintro e w2 ⟨rfl,g2⟩;go_wp2_with fail;go_ret2;exact ⟨i,true,rfl,hg.trans g2,fun _ => ⟨x,hx.out,hc.out⟩,fun h => by cases h⟩
    ·have hcm:BS x.e.id id = 1:=by
      have:=hIi.out.2 i x (by have:=hij2.out;omega) hx.out;unfold BS;rw [if_neg (by omega),if_pos (by omega)]
     rw [hcm] at hix;replace hc:=zH hc;replace hcm:=zH hcm;go_wp2_with fail;refine (hix.out _).mono ?_;rintro e w2 ⟨rfl,g2⟩;go_wp2_with fail;go_ret2;refine ⟨i,false,rfl,hg.trans g2,(fun h => by cases h),fun _ y hy => ?_⟩;obtain ⟨k,hk⟩:=List.mem_iff_getElem?.1 hy;rcases Nat.lt_trichotomy k i with h1 | h1 | h1
     ·have:=hIi.out.1 k y h1 hk;omega
     ·rw [h1,hx.out] at hk;obtain rfl:=Option.some.inj hk;exact hc.out
     ·have:=hs.out i k x y hx.out hk h1;have:=hIi.out.2 i x (by have:=hij2.out;omega) hx.out;omega
   ·have hin:i = N.length:=by omega
    have tn:¬ (i:Int) < N.length:=by omega
    have tnb:decide ((i:Int) < N.length) = false:=decide_eq_false tn;replace hij2:=zH hij2;replace hin:=zH hin;go_wp2_with fail;go_ret2;refine ⟨i,false,rfl,hg,(fun h => by cases h),fun _ y hy => ?_⟩;obtain ⟨k,hk⟩:=List.mem_iff_getElem?.1 hy;have h1:=AQ hk;have:=hI.out.1 k y (by have:=hin.out;omega) hk;omega
theorem DO (T:TM) (id:Int) (w:World) (h:Av Any w T) (hs:∀ (i j:Nat) (x y:Ax),T.N[i]? = some x→T.N[j]? = some y→i < j→x.e.id < y.e.id) :
 Calls Tryz.prog 166 #[.agg T.row,.int .i64 id] w (IdxP T.N id w):=by
 have g1:Gr w (w.alloc (.cells T.row 27)):=(Gr.refl w).alloc _;have hb:=Ag.new w T.row 27;have c0:=hb.cell (i:=0) (v:=.slice T.an T.N.length T.cn) rfl;have hse:=KY Any T.N T.an T.cn id _ (h.n.gr g1) h.l1 hs;refine AZ ?_ hse hb hs;clear hse hb hs;intro hse hb hs;go_enter Tryz.func166,Tryz.ntmps166;go_wp2_with fail;refine hse.out.mono ?_;rintro e w2 ⟨i,b,rfl,g2,q1,q2⟩;go_wp2_with fail;go_ret2;exact ⟨i,b,rfl,g1.trans g2,q1,q2⟩
def EF (N:List Ax):Prop:=∀ (i j:Nat) (x y:Ax),N[i]? = some x→N[j]? = some y→i < j→x.e.id < y.e.id
theorem LM {N:List Ax} (hs:EF N) {i j:Nat} {x y:Ax} (hi:N[i]? = some x) (hj:N[j]? = some y) (h:x.e.id = y.e.id):i = j:=by
 rcases Nat.lt_trichotomy i j with h1 | h1 | h1
 ·have:=hs i j x y hi hj h1;omega
 ·exact h1
 ·have:=hs j i y x hj hi h1;omega
theorem Dh {T:TM} (hs:EF T.N) {i:Nat} {x:Ax} {id:Int} (hx:T.N[i]? = some x) (hid:x.e.id = id):T.v.find id = some x.e:=by
 unfold Ab.find;rw [List.find?_eq_some_iff_append];refine ⟨by simpa using hid,(T.N.take i).map (·.e),(T.N.drop (i + 1)).map (·.e),?_,fun y hy => ?_⟩
 ·have h1:T.N = T.N.take i ++ x :: T.N.drop (i + 1):=by
   have hlt:=AQ hx;have h2:=List.getElem?_eq_some_iff.1 hx;obtain ⟨h3,h4⟩:=h2;rw [← h4,← List.drop_eq_getElem_cons h3,List.take_append_drop]
  show T.N.map (·.e) = _
  conv => lhs;rw [h1]
  simp
 ·obtain ⟨z,hz,rfl⟩:=List.mem_map.1 hy;obtain ⟨k,hk⟩:=List.mem_iff_getElem?.1 hz;have hk1:k < i:=by have:=AQ hk;simp at this;omega
  rw [List.getElem?_take_of_lt hk1] at hk;have:=hs k i z x hk hx hk1;simp;omega
theorem FB {T:TM} {id:Int} (h:∀ x ∈ T.N,x.e.id ≠ id):T.v.find id = none:=by
 unfold Ab.find;rw [List.find?_eq_none];intro y hy;obtain ⟨z,hz,rfl⟩:=List.mem_map.1 hy;simpa using h z hz
abbrev Nd.zero:Nd:=⟨0,0,⟨0,0,0⟩,0,[]⟩
def FindP (t:Ab) (id:Int) (w:World) (e:Ending) (w':World):Prop:=∃ (n:Nd) (a:Option Addr) (c:Nat),n = (t.find id).getD Nd.zero∧e = .returned (.tuple #[.agg #[.int .i64 n.id,.int .i64 n.par,.int .i64 n.srv.k,.int .i64 n.srv.q,.int .i64 n.srv.t,.int .i64 n.pol,.slice a n.tasks.length c],.bool (t.find id).isSome])∧Gr w w'
theorem Oh (T:TM) (id:Int) (w:World) (h:Av Any w T) (hs:EF T.N) :
 Calls Tryz.prog 160 #[.agg T.row,.int .i64 id] w (FindP T.v id w):=by
 obtain ⟨W,hW⟩:=zE ((w.alloc (.cells T.row 27)).alloc (.cells #[.int .i64 0,.int .i64 0,.int .i64 0,.int .i64 0,.int .i64 0,.int .i64 0,.slice none 0 0] 39));have gW:Gr w W:=by rw [hW];exact ((Gr.refl w).alloc _).alloc _
 have hO:Ag W w.heap.size T.row 27:=by rw [hW];exact (Ag.new w _ _).alloc _
 have hR:Ag W (w.heap.size + 1) #[.int .i64 0,.int .i64 0,.int .i64 0,.int .i64 0,.int .i64 0,.int .i64 0,.slice none 0 0] 39:=by
  rw [hW];exact Ag.n1
 have hWz:W.heap.size = w.heap.size + 2:=by rw [hW];simp
 have hTW:=h.gr gW;have hix:=DO T id W hTW hs;obtain ⟨o0,o1,o2,o3⟩:=hO.c4;refine Fm ?_ hW hO hR hix hWz hs h;clear hW hO hR hix hWz hs h;intro hW hO hR hix hWz hs h;go_enter Tryz.func160,Tryz.ntmps160;go_upto_region 1 with fail
 rw [← hW.out];go_wp2_with fail;refine hix.out.mono ?_;rintro e w2 ⟨i,b,rfl,g2,q1,q2⟩;have hR2:=hR.out.gr g2;have hO2:=hO.out.gr g2;have hT2:=hTW.gr g2;clear o0 o1 o2 o3;obtain ⟨r0,r1,r2,r3,r4,r5,r6⟩:=hR2.c7;have fr:=fun i => hR2.free i
 have hwz:=hWz.out;have hg2z:=g2.size;cases b with
 | false =>
  have hf:=FB (q2 rfl);refine B0 ?_ hR2 hO2 hT2 hTW;clear hR2 hO2 hT2 hTW;intro hR2 hO2 hT2 hTW;clear q1 q2;go_wp2_with fail;obtain ⟨w9,hw9⟩:=zE ((((((((w2.setCell ⟨w.heap.size + 1,0,none⟩ (.int .i64 0)).setCell ⟨w.heap.size + 1,1,none⟩ (.int .i64 0)).setCell ⟨w.heap.size + 1,2,none⟩ (.int .i64 0)).setCell ⟨w.heap.size + 1,3,none⟩ (.int .i64 0)).setCell ⟨w.heap.size + 1,4,none⟩ (.int .i64 0)).setCell ⟨w.heap.size + 1,5,none⟩ (.int .i64 0)).setCell ⟨w.heap.size + 1,6,none⟩ (.slice none 0 0)));rw [← hw9];have hR9:Ag w9 (w.heap.size + 1) #[.int .i64 0,.int .i64 0,.int .i64 0,.int .i64 0,.int .i64 0,.int .i64 0,.slice none 0 0] 39:=by
   rw [hw9];exact (((((((hR2.out.set 0 (.int .i64 0)).set 1 (.int .i64 0)).set 2 (.int .i64 0)).set 3 (.int .i64 0)).set 4 (.int .i64 0)).set 5 (.int .i64 0)).set 6 (.slice none 0 0))
  have gx:Aw [w.heap.size + 1] w2 w9:=by
   rw [hw9];exact ((((((((Aw.refl _ _).set (.inl (by simp)) _).set (.inl (by simp)) _).set (.inl (by simp)) _).set (.inl (by simp)) _).set (.inl (by simp)) _).set (.inl (by simp)) _).set (.inl (by simp)) _)
  obtain ⟨d0,d1,d2,d3,d4,d5,d6⟩:=hR9.c7;refine bodyPost_ret (v:=.tuple #[.agg #[.int .i64 0,.int .i64 0,.int .i64 0,.int .i64 0,.int .i64 0,.int .i64 0,.slice none 0 0],.bool false]) (by simp [results,Tryz.results160,go_sem,d0,d1,d2,d3,d4,d5,d6]) rfl ?_;refine ⟨Nd.zero,none,0,by rw [hf];rfl,by rw [hf];rfl,gx.all (gW.trans g2) (fun y hy => by simp at hy;omega)⟩
 | true =>
  obtain ⟨x,hx,hid⟩:=q1 rfl;have hf:=Dh hs.out hx hid;obtain ⟨bb,off,hab,hb,-,c0,c1,c2,c3,c4,c5,c6⟩:=hT2.n.get hx;have p0:=hO2.cell (i:=0) (v:=.slice T.an T.N.length T.cn) rfl;rw [hab] at p0;have tn:(i:Int) < T.N.length:=by have:=AQ hx;omega
  have hl1:=hT2.l1;have hxo:=hT2.n.2 x (AL hx);have hxm:=Hl hxo;refine Br ?_ hf hx hid hab hR2 hO2 hT2 hTW;clear hf hx hid hab hR2 hO2 hT2 hTW;intro hf hx hid hab hR2 hO2 hT2 hTW;clear q1 q2 r0 r1 r2 r3 r4 r5 r6 fr;go_wp2_with fail;have gN:Gr w2 (w2.alloc x.obj):=(Gr.refl w2).alloc _;refine (Fh x.a x.c x.e.tasks _ (hxo.gr gN).1.1 hxo.2.1 hxm).mono ?_;rintro e w5 ⟨a1,d1,rfl,-,m1,-,-,g5,-,-⟩;have hN5:=(Ag.new w2 #[.int .i64 x.e.id,.int .i64 x.e.par,.int .i64 x.e.srv.k,.int .i64 x.e.srv.q,.int .i64 x.e.srv.t,.int .i64 x.e.pol,.slice x.a x.e.tasks.length x.c] 39).gr g5;have hR5:=hR2.out.gr (gN.trans g5);obtain ⟨n0,n1,n2,n3,n4,n5,n6⟩:=hN5.c7;have fn:=fun i => hN5.free i
  obtain ⟨r0,r1,r2,r3,r4,r5,r6⟩:=hR5.c7;have fr:=fun i => hR5.free i
  have hz5:=g5.size;have hne:w2.heap.size ≠ w.heap.size + 1:=by omega
  replace hN5:=zH hN5;replace hR5:=zH hR5;clear c0 c1 c2 c3 c4 c5 c6 p0;go_wp2_with fail;obtain ⟨w9,hw9⟩:=zE (((((((((w5.setCell ⟨w2.heap.size,6,none⟩ (.slice a1 x.e.tasks.length d1)).setCell ⟨w.heap.size + 1,0,none⟩ (.int .i64 x.e.id)).setCell ⟨w.heap.size + 1,1,none⟩ (.int .i64 x.e.par)).setCell ⟨w.heap.size + 1,2,none⟩ (.int .i64 x.e.srv.k)).setCell ⟨w.heap.size + 1,3,none⟩ (.int .i64 x.e.srv.q)).setCell ⟨w.heap.size + 1,4,none⟩ (.int .i64 x.e.srv.t)).setCell ⟨w.heap.size + 1,5,none⟩ (.int .i64 x.e.pol)).setCell ⟨w.heap.size + 1,6,none⟩ (.slice a1 x.e.tasks.length d1)));rw [← hw9];have hR9:Ag w9 (w.heap.size + 1) #[.int .i64 x.e.id,.int .i64 x.e.par,.int .i64 x.e.srv.k,.int .i64 x.e.srv.q,.int .i64 x.e.srv.t,.int .i64 x.e.pol,.slice a1 x.e.tasks.length d1] 39:=by
   rw [hw9];exact ((((((((hR5.out.other hne.symm (.slice a1 x.e.tasks.length d1)).set 0 (.int .i64 x.e.id)).set 1 (.int .i64 x.e.par)).set 2 (.int .i64 x.e.srv.k)).set 3 (.int .i64 x.e.srv.q)).set 4 (.int .i64 x.e.srv.t)).set 5 (.int .i64 x.e.pol)).set 6 (.slice a1 x.e.tasks.length d1))
  have gx:Aw [w2.heap.size,w.heap.size + 1] w5 w9:=by
   rw [hw9];exact (((((((((Aw.refl _ _).set (.inl (by simp)) _).set (.inl (by simp)) _).set (.inl (by simp)) _).set (.inl (by simp)) _).set (.inl (by simp)) _).set (.inl (by simp)) _).set (.inl (by simp)) _).set (.inl (by simp)) _)
  have d0':=hR9.cell (i:=0) (v:=.int .i64 x.e.id) rfl;have d1':=hR9.cell (i:=1) (v:=.int .i64 x.e.par) rfl;have d2':=hR9.cell (i:=2) (v:=.int .i64 x.e.srv.k) rfl;have d3':=hR9.cell (i:=3) (v:=.int .i64 x.e.srv.q) rfl;have d4':=hR9.cell (i:=4) (v:=.int .i64 x.e.srv.t) rfl;have d5':=hR9.cell (i:=5) (v:=.int .i64 x.e.pol) rfl;have d6':=hR9.cell (i:=6) (v:=.slice a1 x.e.tasks.length d1) rfl;refine bodyPost_ret (v:=.tuple #[.agg #[.int .i64 x.e.id,.int .i64 x.e.par,.int .i64 x.e.srv.k,.int .i64 x.e.srv.q,.int .i64 x.e.srv.t,.int .i64 x.e.pol,.slice a1 x.e.tasks.length d1],.bool true]) (by simp [results,Tryz.results160,go_sem,d0',d1',d2',d3',d4',d5',d6']) rfl ?_;exact ⟨x.e,a1,d1,by rw [hf.out];rfl,by rw [hf.out];rfl,gx.all (((gW.trans g2).trans gN).trans g5) (fun y hy => by simp at hy;omega)⟩
def SrvP (o:Option Ao) (w:World) (e:Ending) (w':World):Prop:=∃ s:Ao,s = o.getD AU∧e = .returned (.tuple #[.agg #[.int .i64 s.k,.int .i64 s.q,.int .i64 s.t],.bool o.isSome])∧Gr w w'
theorem D2 (T:TM) (id:Int) (w:World) (h:Av Any w T) (hs:EF T.N) :
 Calls Tryz.prog 159 #[.agg T.row,.int .i64 id] w (SrvP (T.v.server id) w):=by
 obtain ⟨W,hW⟩:=zE ((w.alloc (.cells T.row 27)).alloc (.cells #[.int .i64 0,.int .i64 0,.int .i64 0] 29));have gW:Gr w W:=by rw [hW];exact ((Gr.refl w).alloc _).alloc _
 have hO:Ag W w.heap.size T.row 27:=by rw [hW];exact (Ag.new w _ _).alloc _
 have hR:Ag W (w.heap.size + 1) #[.int .i64 0,.int .i64 0,.int .i64 0] 29:=by
  rw [hW];exact Ag.n1
 have hWz:W.heap.size = w.heap.size + 2:=by rw [hW];simp
 have hTW:=h.gr gW;have hix:=DO T id W hTW hs;obtain ⟨o0,o1,o2,o3⟩:=hO.c4;refine Dn ?_ hW hO hix hWz hs h;clear hW hO hix hWz hs h;intro hW hO hix hWz hs h;by_cases h0:id = 0
 ·have hsv:T.v.server id = some AU:=by unfold Ab.server;rw [if_pos h0]
  obtain ⟨r0,r1,r2⟩:=hR.c3;have fr:=fun i => hR.free i
  have hR2:=Lib.hid hR;refine AZ ?_ hR hsv hTW;clear hR hsv hTW;intro hR hsv hTW;have tz:(id == 0) = true:=by simpa using h0
  replace h0:=zH h0;clear o0 o1 o2 o3;go_enter Tryz.func159,Tryz.ntmps159;go_upto_region 1 with fail
  rw [← hW.out];go_wp2_with fail;obtain ⟨w9,hw9⟩:=zE ((((W.setCell ⟨w.heap.size + 1,0,none⟩ (.int .i64 0)).setCell ⟨w.heap.size + 1,1,none⟩ (.int .i64 0)).setCell ⟨w.heap.size + 1,2,none⟩ (.int .i64 0)));rw [← hw9];have hR9:Ag w9 (w.heap.size + 1) #[.int .i64 0,.int .i64 0,.int .i64 0] 29:=by
   rw [hw9];exact (((hR2.out.set 0 (.int .i64 0)).set 1 (.int .i64 0)).set 2 (.int .i64 0))
  have gx:Aw [w.heap.size + 1] W w9:=by
   rw [hw9];exact ((((Aw.refl _ _).set (.inl (by simp)) _).set (.inl (by simp)) _).set (.inl (by simp)) _)
  obtain ⟨d0,d1,d2⟩:=hR9.c3;refine bodyPost_ret (v:=.tuple #[.agg #[.int .i64 0,.int .i64 0,.int .i64 0],.bool true]) (by simp [results,Tryz.results159,go_sem,d0,d1,d2]) rfl ?_;have hwz:=hWz.out;exact ⟨AU,by rw [hsv.out];rfl,by rw [hsv.out];rfl,gx.all gW (fun y hy => by simp at hy;omega)⟩
 ·have hsv:T.v.server id = (T.v.find id).map (·.srv):=by unfold Ab.server;rw [if_neg h0]
  have tz:(id == 0) = false:=by simpa using h0
  refine AZ ?_ h0 hR hsv;clear h0 hR hsv;intro h0 hR hsv;go_enter Tryz.func159,Tryz.ntmps159;go_upto_region 1 with fail
  rw [← hW.out];go_wp2_with fail;refine hix.out.mono ?_;rintro e w2 ⟨i,b,rfl,g2,q1,q2⟩;have hR2:=hR.out.gr g2;have hO2:=hO.out.gr g2;have hT2:=hTW.gr g2;clear o0 o1 o2 o3;obtain ⟨r0,r1,r2⟩:=hR2.c3;have fr:=fun i => hR2.free i
  have hwz:=hWz.out;have hg2z:=g2.size;cases b with
  | false =>
   have hf:=FB (q2 rfl);refine DT ?_ hR2 hO2 hT2 hTW hf;clear hR2 hO2 hT2 hTW hf;intro hR2 hO2 hT2 hTW hf;clear q1 q2;go_wp2_with fail;obtain ⟨w9,hw9⟩:=zE ((((w2.setCell ⟨w.heap.size + 1,0,none⟩ (.int .i64 0)).setCell ⟨w.heap.size + 1,1,none⟩ (.int .i64 0)).setCell ⟨w.heap.size + 1,2,none⟩ (.int .i64 0)));rw [← hw9];have hR9:Ag w9 (w.heap.size + 1) #[.int .i64 0,.int .i64 0,.int .i64 0] 29:=by
    rw [hw9];exact (((hR2.out.set 0 (.int .i64 0)).set 1 (.int .i64 0)).set 2 (.int .i64 0))
   have gx:Aw [w.heap.size + 1] w2 w9:=by
    rw [hw9];exact ((((Aw.refl _ _).set (.inl (by simp)) _).set (.inl (by simp)) _).set (.inl (by simp)) _)
   obtain ⟨d0,d1,d2⟩:=hR9.c3;refine bodyPost_ret (v:=.tuple #[.agg #[.int .i64 0,.int .i64 0,.int .i64 0],.bool false]) (by simp [results,Tryz.results159,go_sem,d0,d1,d2]) rfl ?_;exact ⟨AU,by rw [hsv.out,hf.out];rfl,by rw [hsv.out,hf.out];rfl,gx.all (gW.trans g2) (fun y hy => by simp at hy;omega)⟩
  | true =>
   obtain ⟨x,hx,hid⟩:=q1 rfl;have hf:=Dh hs.out hx hid;obtain ⟨bb,off,hab,hb,-,c0,c1,c2,c3,c4,c5,c6⟩:=hT2.n.get hx;have p0:=hO2.cell (i:=0) (v:=.slice T.an T.N.length T.cn) rfl;rw [hab] at p0;have tn:(i:Int) < T.N.length:=by have:=AQ hx;omega
   have hl1:=hT2.l1;refine Br ?_ hf hx hid hab hR2 hO2 hT2 hTW;clear hf hx hid hab hR2 hO2 hT2 hTW;intro hf hx hid hab hR2 hO2 hT2 hTW;clear q1 q2;go_wp2_with fail;obtain ⟨w9,hw9⟩:=zE ((((w2.setCell ⟨w.heap.size + 1,0,none⟩ (.int .i64 x.e.srv.k)).setCell ⟨w.heap.size + 1,1,none⟩ (.int .i64 x.e.srv.q)).setCell ⟨w.heap.size + 1,2,none⟩ (.int .i64 x.e.srv.t)));rw [← hw9];have hR9:Ag w9 (w.heap.size + 1) #[.int .i64 x.e.srv.k,.int .i64 x.e.srv.q,.int .i64 x.e.srv.t] 29:=by
    rw [hw9];exact (((hR2.out.set 0 (.int .i64 x.e.srv.k)).set 1 (.int .i64 x.e.srv.q)).set 2 (.int .i64 x.e.srv.t))
   have gx:Aw [w.heap.size + 1] w2 w9:=by
    rw [hw9];exact ((((Aw.refl _ _).set (.inl (by simp)) _).set (.inl (by simp)) _).set (.inl (by simp)) _)
   obtain ⟨e0,e1,e2⟩:=hR9.c3;refine bodyPost_ret (v:=.tuple #[.agg #[.int .i64 x.e.srv.k,.int .i64 x.e.srv.q,.int .i64 x.e.srv.t],.bool true]) (by simp [results,Tryz.results159,go_sem,e0,e1,e2]) rfl ?_;exact ⟨x.e.srv,by rw [hsv.out,hf.out];rfl,by rw [hsv.out,hf.out];rfl,gx.all (gW.trans g2) (fun y hy => by simp at hy;omega)⟩
theorem AG (n:Int) (w:World):Calls Tryz.prog 45 #[.int .i64 n] w fun e w' => e = .returned (.agg #[.int .i64 n,.int .i64 0])∧Gr w w':=by
 go_enter Tryz.func45,Tryz.ntmps45;go_wp2_with fail;refine bodyPost_ret (v:=.agg #[.int .i64 n,.int .i64 0]) (by simp [results,Tryz.results45,go_sem]) rfl ⟨rfl,?_⟩;repeat (first | exact Gr.refl _ | apply Gr.alloc | apply Gr.drew | apply Gr.drewN | (refine Gr.setCell ?_ (by simp) _) | (refine Gr.trans ?_ (by assumption)))
def CntP (l:List Ao) (w:World) (e:Ending) (w':World):Prop:=∃ a c,e = .returned (.slice a l.length c)∧w'.ownsRow w.heap.size 29 3 (.slice a l.length c) l.length (l.flatMap Ao.cells)∧Gr w w'
def Fg (N:List Ax) (id:Int) (k:Nat):List Ao:=((N.take k).filter fun x => decide (x.e.par = id)).map (·.e.srv)
def Dk (G:List Gh) (id:Int) (k:Nat):List Ao:=((G.take k).filter fun x => decide (x.par = id)).map (·.srv)
theorem Nm {N:List Ax} {id:Int} {k:Nat} {x:Ax} (hx:N[k]? = some x):Fg N id (k + 1) = Fg N id k ++ if x.e.par = id then [x.e.srv] else []:=by
 unfold Fg;rw [Ae hx,List.filter_append,List.map_append];congr 1;by_cases h:x.e.par = id <;> simp [h]
theorem IM {G:List Gh} {id:Int} {k:Nat} {x:Gh} (hx:G[k]? = some x):Dk G id (k + 1) = Dk G id k ++ if x.par = id then [x.srv] else []:=by
 unfold Dk;rw [Ae hx,List.filter_append,List.map_append];congr 1;by_cases h:x.par = id <;> simp [h]
theorem Cj (N:List Ax) (id:Int) (k:Nat):(Fg N id k).length≤k:=by
 unfold Fg;have:=List.length_filter_le (fun x:Ax => decide (x.e.par = id)) (N.take k);simp at this ⊢;omega
theorem Ct (G:List Gh) (id:Int) (k:Nat):(Dk G id k).length≤k:=by
 unfold Dk;have:=List.length_filter_le (fun x:Gh => decide (x.par = id)) (G.take k);simp at this ⊢;omega
theorem CP (T:TM) (id:Int):T.v.counted id = Fg T.N id T.N.length ++ Dk T.G id T.G.length:=by
 unfold Ab.counted Fg Dk;rw [List.take_length,List.take_length];show List.map _ (List.filter _ (T.N.map (·.e))) ++ _ = _;rw [List.filter_map,List.map_map];rfl
theorem CX (T:TM) (id:Int) (w:World) (h:Av Any w T) :
 Calls Tryz.prog 162 #[.agg T.row,.int .i64 id] w (CntP (T.v.counted id) w):=by
 obtain ⟨i24,hi,hz0,hz1,hz2⟩:=info_parts Tryz.infoSrv;obtain ⟨W,hW⟩:=zE (w.alloc (.cells T.row 27));have gW:Gr w W:=by rw [hW];exact (Gr.refl w).alloc _
 have hO:Ag W w.heap.size T.row 27:=by rw [hW];exact Ag.new w _ _
 have hTW:=h.gr gW;have o0:=hO.cell (i:=0) (v:=.slice T.an T.N.length T.cn) rfl;have hl1:=h.l1;have hl2:=h.l2;rw [CP];obtain ⟨N,an,cn,G,ag,cg,last,now⟩:=T;dsimp only at hl1 hl2 o0 ⊢;refine B0 ?_ hW hO h hTW;clear hW hO h hTW;intro hW hO h hTW;go_enter Tryz.func162,Tryz.ntmps162;go_upto_region 1 with fail
 rw [← hW.out];go_wp2_with fail;clear o0;go_loopw [13,5] (fun iv ov wr => ∃ k:Nat,k≤N.length∧iv = .int .i64 k∧Hid (wr.ownsRow W.heap.size 29 3 ov (Fg N id k).length ((Fg N id k).flatMap Ao.cells))∧Gr W wr) (fun iv _ _ => N.length - (intOf iv).toNat);case atStart => exact ⟨0,Nat.zero_le _,rfl,Lib.hid (World.ownsRow_nil _ _ _ _),Gr.refl _⟩
 case round =>
  obtain ⟨k,hk,rfl,hown,hg⟩:=hrel;by_cases hlt:k < N.length
  ·obtain ⟨x,hx⟩:=Ac N k hlt;obtain ⟨b,off,hab,hb,-,c0,c1,c2,c3,c4,c5,c6⟩:=(hTW.out.gr hg).n.get hx;dsimp only at hab;subst hab;have tk:(k:Int) < N.length:=by omega
   have hsu:=Nm (id:=id) hx;have hln:=Cj N id k;have gz:=gW.size;have gz2:=hg.size;replace hx:=zH hx;by_cases hp:x.e.par = id
   ·rw [if_pos hp] at hsu;have tp:(x.e.par == id) = true:=by simpa using hp
    obtain ⟨wz,hwz⟩:=zE ((wr.alloc (Ax.obj x)).alloc (.cells #[.int .i64 x.e.srv.k,.int .i64 x.e.srv.q,.int .i64 x.e.srv.t] 29));have gzz:Gr wr wz:=by rw [hwz];exact ((Gr.refl wr).alloc _).alloc _
    have hO2:=As hown.out gzz;have hrec:Al 3 Ao.cells wz (some ⟨wr.heap.size + 1,0,none⟩) [x.e.srv]:=by
     rw [hwz];have:=An Ao.cells_len (wr.alloc (Ax.obj x)) [x.e.srv] 29 #[.int .i64 x.e.srv.k,.int .i64 x.e.srv.q,.int .i64 x.e.srv.t] (by simp);rw [zL] at this;exact this
    have hbz:W.heap.size≤wz.heap.size:=by have:=gzz.size;omega
    have hbl:=Ar hown.out;have hsl:(Fg N id (k + 1)).length = (Fg N id k).length + 1:=by rw [hsu,List.length_append];rfl
    refine Fm ?_ hbl hp hsu hsl hwz hO2 hrec;clear hbl hp hsu hsl hwz hO2 hrec;intro hbl hp hsu hsl hwz hO2 hrec;go_wp2_with (at_builtin;go_loud (rw [← hwz.out];refine Ai (k:=3) (enc:=Ao.cells) rfl _ _ 122 rfl W.heap.size 29 i24 _ 24 Tryz.underlying122 hi hz0 hz1 hz2 rfl (by decide) Ao.cells_len Ao.cells_one _ (Fg N id k) rfl hO2.out (some ⟨wr.heap.size + 1,0,none⟩) 1 [x.e.srv] rfl hrec.out (fun h => by cases h) (by simp;unfold maxLen;omega) (by simp;omega) hbz ?_;intro v7 w7 hown7 hgr7;rw [← hsu.out] at hown7;have g7:Gr W w7:=(hg.trans gzz).grown hgr7 (fun y hy => (hbl.out y hy).2);replace hown7:=zH hown7));go_roundw;case rel => exact ⟨k + 1,by omega,by go_num,hown7,g7⟩
    case measure => simp [intOf];omega
   ·rw [if_neg hp,List.append_nil] at hsu;have tp:(x.e.par == id) = false:=by simpa using hp
    replace hp:=zH hp;replace hsu:=zH hsu;go_wp2_with fail;go_roundw;case rel => exact ⟨k + 1,by omega,by go_num,Lib.hid (As (by rw [hsu.out];exact hown.out) ((Gr.refl _).alloc _)),hg.alloc _⟩
    case measure => simp [intOf];omega
  ·have hkN:k = N.length:=by omega
   have tk:¬ (k:Int) < N.length:=by omega
   have tkb:decide ((k:Int) < N.length) = false:=decide_eq_false tk;have hO2:=hO.out.gr hg;have o1:=hO2.cell (i:=1) (v:=.slice ag G.length cg) rfl;replace hkN:=zH hkN;replace hO2:=zH hO2;go_wp2_with fail;clear o1;rw [hkN.out] at hown;have hlN:=Cj N id N.length;obtain ⟨A,hA⟩:=zE (Fg N id N.length);rw [← hA] at hown hlN;replace hA:=zH hA;have gz:=gW.size;obtain ⟨wo,rfl⟩:∃ wo:World,wo = wr:=⟨_,rfl⟩
   go_loopw [30,5] (fun iv ov wr => ∃ j:Nat,j≤G.length∧iv = .int .i64 j∧Hid (wr.ownsRow W.heap.size 29 3 ov (A ++ Dk G id j).length ((A ++ Dk G id j).flatMap Ao.cells))∧Gr W wr) (fun iv _ _ => G.length - (intOf iv).toNat);case atStart => exact ⟨0,Nat.zero_le _,rfl,Lib.hid (by rw [show A ++ Dk G id 0 = A from by unfold Dk;simp];exact hown.out),hg⟩
   case round =>
    obtain ⟨j,hj,rfl,hown,hg⟩:=hrel;have gz2:=hg.size;by_cases hlt:j < G.length
    ·obtain ⟨x,hx⟩:=Ac G j hlt;obtain ⟨b,off,hab,hb,-,c0,c1,c2,c3,c4⟩:=CF ((hTW.out.gr hg).g) hx;dsimp only at hab;subst hab;have tk:(j:Int) < G.length:=by omega
     have hsu:=IM (id:=id) hx;have hln:=Ct G id j;have hAl:(A ++ Dk G id j).length≤2000000:=by rw [List.length_append];omega
     replace hx:=zH hx;by_cases hp:x.par = id
     ·rw [if_pos hp] at hsu;have tp:(x.par == id) = true:=by simpa using hp
      obtain ⟨wz,hwz⟩:=zE ((wr.alloc (.cells #[.int .i64 x.par,.int .i64 x.srv.k,.int .i64 x.srv.q,.int .i64 x.srv.t,.int .i64 x.till] 43)).alloc (.cells #[.int .i64 x.srv.k,.int .i64 x.srv.q,.int .i64 x.srv.t] 29));have gzz:Gr wr wz:=by rw [hwz];exact ((Gr.refl wr).alloc _).alloc _
      have hO2:=As hown.out gzz;have hrec:Al 3 Ao.cells wz (some ⟨wr.heap.size + 1,0,none⟩) [x.srv]:=by
       rw [hwz];have:=An Ao.cells_len (wr.alloc (.cells #[.int .i64 x.par,.int .i64 x.srv.k,.int .i64 x.srv.q,.int .i64 x.srv.t,.int .i64 x.till] 43)) [x.srv] 29 #[.int .i64 x.srv.k,.int .i64 x.srv.q,.int .i64 x.srv.t] (by simp);rw [zL] at this;exact this
      have hbz:W.heap.size≤wz.heap.size:=by have:=gzz.size;omega
      have hbl:=Ar hown.out;have hsl:A ++ Dk G id (j + 1) = (A ++ Dk G id j) ++ [x.srv]:=by rw [hsu,List.append_assoc]
      refine Fm ?_ hbl hp hsu hsl hwz hO2 hrec;clear hbl hp hsu hsl hwz hO2 hrec;intro hbl hp hsu hsl hwz hO2 hrec;go_wp2_with (at_builtin;go_loud (rw [← hwz.out];refine Ai (k:=3) (enc:=Ao.cells) rfl _ _ 122 rfl W.heap.size 29 i24 _ 24 Tryz.underlying122 hi hz0 hz1 hz2 rfl (by decide) Ao.cells_len Ao.cells_one _ (A ++ Dk G id j) rfl hO2.out (some ⟨wr.heap.size + 1,0,none⟩) 1 [x.srv] rfl hrec.out (fun h => by cases h) (by simp only [List.length_cons,List.length_nil];unfold maxLen;omega) (by simp only [List.length_cons,List.length_nil];omega) hbz ?_;intro v7 w7 hown7 hgr7;rw [← hsl.out] at hown7;have g7:Gr W w7:=(hg.trans gzz).grown hgr7 (fun y hy => (hbl.out y hy).2);replace hown7:=zH hown7));go_roundw;case rel => exact ⟨j + 1,by omega,by go_num,hown7,g7⟩
      case measure => simp [intOf];omega
     ·rw [if_neg hp,List.append_nil] at hsu;have tp:(x.par == id) = false:=by simpa using hp
      replace hp:=zH hp;replace hsu:=zH hsu;go_wp2_with fail;go_roundw;case rel => exact ⟨j + 1,by omega,by go_num,Lib.hid (As (by rw [hsu.out];exact hown.out) ((Gr.refl _).alloc _)),hg.alloc _⟩
      case measure => simp [intOf];omega
    ·have hjG:j = G.length:=by omega
     have tj:¬ (j:Int) < G.length:=by omega
     have tjb:decide ((j:Int) < G.length) = false:=decide_eq_false tj;rw [hjG,hA.out] at hown;obtain ⟨a',c',hv,-,-,-⟩:=Af Ao.cells_len hown.out;subst hv;replace hjG:=zH hjG;go_wp2_with fail;go_ret;exact ⟨a',c',by rw [List.length_append];rfl,CN hown.out gz,gW.trans hg⟩
def LF (N:List Ax):Prop:=∀ x ∈ N,0≤x.e.par∧x.e.par < x.e.id∧x.e.id≤1000000
theorem Ls {t:Ab} (hl:∀ x ∈ t.nodes,0≤x.par∧x.par < x.id):∀ (n m:Nat) (id d:Int),id.toNat < n→id.toNat < m→t.depthF n id d = t.depthF m id d:=by
 intro n;induction n with
 | zero => intro m id d h;omega
 | succ n ih =>
  intro m id d h1 h2;obtain ⟨m,rfl⟩:∃ k,m = k + 1:=⟨m - 1,by omega⟩
  unfold Ab.depthF;by_cases h0:id = 0
  ·rw [if_pos h0,if_pos h0]
  ·rw [if_neg h0,if_neg h0];cases hf:t.find id with
   | none => rfl
   | some x =>
    dsimp only;unfold Ab.find at hf;have hx:=List.mem_of_find?_eq_some hf;have hid:x.id = id:=by have:=List.find?_some hf;simpa using this
    have:=hl x hx;exact ih m x.par (d + 1) (by omega) (by omega)
theorem Lq {t:Ab} (hl:∀ x ∈ t.nodes,0≤x.par∧x.par < x.id) {id:Int} {x:Nd} (h0:id ≠ 0) (hf:t.find id = some x) (d:Int):t.depthF (id.toNat + 1) id d = t.depthF (x.par.toNat + 1) x.par (d + 1):=by
 have hx:x ∈ t.nodes:=List.mem_of_find?_eq_some hf;have hid:x.id = id:=by
  have:=List.find?_some hf;simpa using this
 have:=hl x hx
 conv => lhs;unfold Ab.depthF
 rw [if_neg h0,hf];exact Ls hl _ _ _ _ (by omega) (by omega)
theorem HF {t:Ab} {id:Int} (h0:id ≠ 0) (hf:t.find id = none) (n:Nat) (d:Int):t.depthF (n + 1) id d = -1:=by
 unfold Ab.depthF;rw [if_neg h0,hf]
theorem Lr {t:Ab} (n:Nat) (d:Int):t.depthF (n + 1) 0 d = d:=by
 unfold Ab.depthF;rw [if_pos rfl]
theorem Nf (T:TM) (id:Int) (w:World) (h:Av Any w T) (hs:EF T.N) (hl:LF T.N) :
 Calls Tryz.prog 161 #[.agg T.row,.int .i64 id] w fun e w' => e = .returned (.int .i64 (T.v.depth id))∧Gr w w':=by
 have hl2:∀ x ∈ T.v.nodes,0≤x.par∧x.par < x.id:=fun x hx => by
  obtain ⟨y,hy,rfl⟩:=List.mem_map.1 hx;have:=hl y hy;exact ⟨this.1,this.2.1⟩
 obtain ⟨D,hD⟩:=zE (T.v.depth id);rw [← hD];obtain ⟨W,hW⟩:=zE (w.alloc (.cells T.row 27));have gW:Gr w W:=by rw [hW];exact (Gr.refl w).alloc _
 have hO:Ag W w.heap.size T.row 27:=by rw [hW];exact Ag.new w _ _
 have hTW:=h.gr gW;refine Br ?_ hW hO h hTW hs hl hl2 hD;clear hW hO h hTW hs hl hl2 hD;intro hW hO h hTW hs hl hl2 hD;go_enter Tryz.func161,Tryz.ntmps161;go_upto_region 1 with fail
 rw [← hW.out];go_wp2_with fail;go_loopw [1,5] (fun iv dv wr => ∃ (i:Int) (d:Nat),iv = .int .i64 i∧dv = .int .i64 d∧Hid (T.v.depthF (i.toNat + 1) i d = D)∧(d = 0 ∨ (0≤i∧d + i.toNat≤1000000))∧Gr W wr) (fun iv _ _ => (intOf iv).toNat);case atStart => exact ⟨id,0,rfl,rfl,Lib.hid (by rw [hD.out];rfl),.inl rfl,Gr.refl _⟩
 case round =>
  obtain ⟨i,d,rfl,rfl,hd,hdb,hg⟩:=hrel;have hd1:(d:Int)≤1000000:=by omega
  by_cases h0:i = 0
  ·have tz:(i != 0) = false:=by simpa using h0
   have hdD:(d:Int) = D:=by rw [← hd.out,h0,Lr]
   replace hdD:=zH hdD;replace h0:=zH h0;clear hdb;go_wp2_with fail;go_ret;exact ⟨by rw [← hdD.out];rfl,gW.trans hg⟩
  ·have tz:(i != 0) = true:=by simpa using h0
   have hix:=DO T i wr (hTW.out.gr hg) hs.out;have hO2:=hO.out.gr hg;obtain ⟨o0,o1,o2,o3⟩:=hO2.c4;refine B0 ?_ hix h0 hO2 hdb;clear hix h0 hO2 hdb;intro hix h0 hO2 hdb;go_wp2_with fail;refine hix.out.mono ?_;rintro e w2 ⟨k,b,rfl,g2,q1,q2⟩;clear o0 o1 o2 o3;cases b with
   | false =>
    have hf:=FB (q2 rfl);have hdD:D = -1:=by rw [← hd.out,HF h0.out hf]
    clear q1 q2;replace hf:=zH hf;replace hdD:=zH hdD;go_wp2_with fail;go_ret;exact ⟨by rw [hdD.out];rfl,(gW.trans hg).trans g2⟩
   | true =>
    obtain ⟨x,hx,hid⟩:=q1 rfl;have hf:=Dh hs.out hx hid;have hst:=Lq hl2.out h0.out hf (d:Int);have hlx:=hl.out x (List.mem_of_getElem? hx);obtain ⟨bb,off,hab,hb,-,c0,c1,c2,c3,c4,c5,c6⟩:=((hTW.out.gr hg).gr g2).n.get hx;have p0:=(hO2.out.gr g2).cell (i:=0) (v:=.slice T.an T.N.length T.cn) rfl;rw [hab] at p0;have tn:(k:Int) < T.N.length:=by have:=AQ hx;omega
    have hl1:=hTW.out.l1;refine Dn ?_ hf hx hid hab hst hlx;clear hf hx hid hab hst hlx;intro hf hx hid hab hst hlx;clear q1 q2;go_wp2_with fail;go_roundw;case rel => exact ⟨x.e.par,d + 1,rfl,by go_num,Lib.hid (by rw [← hd.out,hst.out];rfl),.inr ⟨hlx.out.1,by have:=hlx.out;have:=hid.out;have:=hdb.out;omega⟩,hg.trans g2⟩
    case measure => have:=hlx.out;have:=hid.out;simp [intOf];omega
def Fl (N:List Ax) (id:Int) (i:Nat) (x:Ax):Prop:=N[i]? = some x∧x.e.id = id∧∀ (j:Nat) (y:Ax),j < i→N[j]? = some y→y.e.id ≠ id
theorem F2 (N:List Ax) (id:Int):(∃ i x,Fl N id i x) ∨ ∀ x ∈ N,x.e.id ≠ id:=by
 induction N with
 | nil => right;intro x hx;cases hx
 | cons y r ih =>
  by_cases hy:y.e.id = id
  ·exact .inl ⟨0,y,rfl,hy,fun j _ hj => by omega⟩
  ·rcases ih with ⟨i,x,h1,h2,h3⟩ | h
   ·refine .inl ⟨i + 1,x,h1,h2,fun j z hj hz => ?_⟩;cases j with
    | zero =>
     obtain rfl:y = z:=by simpa using hz
     exact hy
    | succ j => exact h3 j z (by omega) (by simpa using hz)
   ·right;intro x hx;rcases List.mem_cons.1 hx with rfl | hx
    ·exact hy
    ·exact h x hx
theorem Dg {T:TM} {id:Int} {i:Nat} {x:Ax} (h:Fl T.N id i x):T.v.find id = some x.e:=by
 obtain ⟨h1,h2,h3⟩:=h;unfold Ab.find;show List.find? _ (T.N.map (·.e)) = _;rw [List.find?_map];have:List.find? ((fun n:Nd => decide (n.id = id)) ∘ fun y:Ax => y.e) T.N = some x:=by
  rw [List.find?_eq_some_iff_getElem];obtain ⟨hi,hx⟩:=List.getElem?_eq_some_iff.1 h1;refine ⟨by simpa using h2,i,hi,hx,fun j hj => ?_⟩;have:=h3 j T.N[j] hj (List.getElem?_eq_getElem _);simpa using this
 rw [this];rfl
theorem Ha (T:TM) (id:Int) (w:World) (h:Av Any w T) (hf:∀ x ∈ T.N,x.e.id ≠ id) :
 Calls Tryz.prog 50 #[.agg T.row,.int .i64 id] w fun e w' => e = .returned (.tuple #[.agg #[.int .i64 0,.int .i64 0,.int .i64 0,.int .i64 0,.int .i64 0,.int .i64 0,.slice none 0 0],.bool false])∧Gr w w':=by
 obtain ⟨W,hW⟩:=zE ((w.alloc (.cells #[.slice T.an T.N.length T.cn,.slice T.ag T.G.length T.cg,.int .i64 T.last,.int .i64 T.now] 27)).alloc (.cells #[.int .i64 0,.int .i64 0,.int .i64 0,.int .i64 0,.int .i64 0,.int .i64 0,.slice none 0 0] 39));have gW:Gr w W:=by rw [hW];exact ((Gr.refl w).alloc _).alloc _
 have hO:Ag W (w.heap.size) #[.slice T.an T.N.length T.cn,.slice T.ag T.G.length T.cg,.int .i64 T.last,.int .i64 T.now] 27:=by
  rw [hW];exact (Ag.n0).alloc _
 have hR:Ag W (w.heap.size + 1) #[.int .i64 0,.int .i64 0,.int .i64 0,.int .i64 0,.int .i64 0,.int .i64 0,.slice none 0 0] 39:=by
  rw [hW];exact Ag.n1
 have hWz:W.heap.size = w.heap.size + 2:=by rw [hW];simp
 have hTW:=h.gr gW;have hl1:=h.l1;obtain ⟨o0,o1,o2,o3⟩:=hO.c4;obtain ⟨aN,haN⟩:=zE T.an;rw [← haN] at o0;refine Br ?_ haN hW hO hR h hTW hWz hf;clear haN hW hO hR h hTW hWz hf;intro haN hW hO hR h hTW hWz hf;go_enter Tryz.func50,Tryz.ntmps50;go_upto_region 1 with fail
 rw [← hW.out];go_wp2_with fail;clear o0 o1 o2 o3;go_loopw [11] (fun iv wr => ∃ k:Nat,k≤T.N.length∧iv = .int .i64 k∧Gr W wr) (fun iv _ => T.N.length - (intOf iv).toNat);case atStart => exact ⟨0,Nat.zero_le _,rfl,Gr.refl _⟩
 case round =>
  obtain ⟨k,hk,rfl,hg⟩:=hrel;by_cases hlt:k < T.N.length
  ·have hkl:k < T.N.length:=by omega
   have tk:(k:Int) < T.N.length:=by omega
   obtain ⟨y,hy⟩:=Ac T.N k hkl;obtain ⟨b,off,hab,hb,-,c0,c1,c2,c3,c4,c5,c6⟩:=(hTW.out.gr hg).n.get hy;rw [← haN.out] at hab;subst hab;have hne:=hf.out y (AL hy);have tp:(y.e.id == id) = false:=by simpa using hne
   replace hy:=zH hy;replace hne:=zH hne;go_wp2_with fail;go_roundw;case rel => exact ⟨k + 1,by omega,by go_num,hg.trans ((Gr.refl _).alloc _)⟩
   case measure => simp [intOf];omega
  ·have tk:¬ (k:Int) < T.N.length:=by omega
   have hR2:=hR.out.gr hg;obtain ⟨r0,r1,r2,r3,r4,r5,r6⟩:=hR2.c7;have fr:=fun i => hR2.free i
   have hwz:=hWz.out;have hgz:=hg.size;replace hR2:=zH hR2;go_wp2_with fail;obtain ⟨w9,hw9⟩:=zE (((((((wr.setCell ⟨w.heap.size + 1,0,none⟩ (.int .i64 0)).setCell ⟨w.heap.size + 1,1,none⟩ (.int .i64 0)).setCell ⟨w.heap.size + 1,2,none⟩ (.int .i64 0)).setCell ⟨w.heap.size + 1,3,none⟩ (.int .i64 0)).setCell ⟨w.heap.size + 1,4,none⟩ (.int .i64 0)).setCell ⟨w.heap.size + 1,5,none⟩ (.int .i64 0)).setCell ⟨w.heap.size + 1,6,none⟩ (.slice none 0 0));rw [← hw9];have gxw9:Aw [w.heap.size + 1] wr w9:=by
    rw [hw9];exact ((((((((Aw.refl _ _).set (.inl (by simp)) _).set (.inl (by simp)) _).set (.inl (by simp)) _).set (.inl (by simp)) _).set (.inl (by simp)) _).set (.inl (by simp)) _).set (.inl (by simp)) _)
   have hR9:Ag w9 (w.heap.size + 1) #[.int .i64 0,.int .i64 0,.int .i64 0,.int .i64 0,.int .i64 0,.int .i64 0,.slice none 0 0] 39:=by
    rw [hw9];exact (((((((hR2.out.set 0 (.int .i64 0)).set 1 (.int .i64 0)).set 2 (.int .i64 0)).set 3 (.int .i64 0)).set 4 (.int .i64 0)).set 5 (.int .i64 0)).set 6 (.slice none 0 0))
   obtain ⟨d0,d1,d2,d3,d4,d5,d6⟩:=hR9.c7;refine bodyPost_ret (v:=.tuple #[.agg #[.int .i64 0,.int .i64 0,.int .i64 0,.int .i64 0,.int .i64 0,.int .i64 0,.slice none 0 0],.bool false]) (by simp [results,Tryz.results50,go_sem,d0,d1,d2,d3,d4,d5,d6]) rfl ⟨rfl,?_⟩;exact gxw9.all (gW.trans hg) (fun y hy => by simp at hy;omega)
theorem FU (T:TM) (id:Int) (w:World) (h:Av Any w T) {i:Nat} {x:Ax} (hf:Fl T.N id i x) :
 Calls Tryz.prog 50 #[.agg T.row,.int .i64 id] w fun e w' => e = .returned (.tuple #[.agg #[.int .i64 x.e.id,.int .i64 x.e.par,.int .i64 x.e.srv.k,.int .i64 x.e.srv.q,.int .i64 x.e.srv.t,.int .i64 x.e.pol,.slice x.a x.e.tasks.length x.c],.bool true])∧Gr w w':=by
 obtain ⟨hf1,hf2,hf3⟩:=hf;have hil:=AQ hf1;obtain ⟨W,hW⟩:=zE ((w.alloc (.cells #[.slice T.an T.N.length T.cn,.slice T.ag T.G.length T.cg,.int .i64 T.last,.int .i64 T.now] 27)).alloc (.cells #[.int .i64 0,.int .i64 0,.int .i64 0,.int .i64 0,.int .i64 0,.int .i64 0,.slice none 0 0] 39));have gW:Gr w W:=by rw [hW];exact ((Gr.refl w).alloc _).alloc _
 have hO:Ag W (w.heap.size) #[.slice T.an T.N.length T.cn,.slice T.ag T.G.length T.cg,.int .i64 T.last,.int .i64 T.now] 27:=by
  rw [hW];exact (Ag.n0).alloc _
 have hR:Ag W (w.heap.size + 1) #[.int .i64 0,.int .i64 0,.int .i64 0,.int .i64 0,.int .i64 0,.int .i64 0,.slice none 0 0] 39:=by
  rw [hW];exact Ag.n1
 have hWz:W.heap.size = w.heap.size + 2:=by rw [hW];simp
 have hTW:=h.gr gW;have hl1:=h.l1;obtain ⟨o0,o1,o2,o3⟩:=hO.c4;obtain ⟨aN,haN⟩:=zE T.an;rw [← haN] at o0;refine Br ?_ haN hW hO hR h hTW hWz hf1;clear haN hW hO hR h hTW hWz hf1;intro haN hW hO hR h hTW hWz hf1;replace hf2:=zH hf2;replace hf3:=zH hf3;go_enter Tryz.func50,Tryz.ntmps50;go_upto_region 1 with fail
 rw [← hW.out];go_wp2_with fail;clear o0 o1 o2 o3;go_loopw [11] (fun iv wr => ∃ k:Nat,k≤i∧iv = .int .i64 k∧Gr W wr) (fun iv _ => T.N.length - (intOf iv).toNat);case atStart => exact ⟨0,Nat.zero_le _,rfl,Gr.refl _⟩
 case round =>
  obtain ⟨k,hk,rfl,hg⟩:=hrel;by_cases hlt:k < i
  ·have hkl:k < T.N.length:=by omega
   have tk:(k:Int) < T.N.length:=by omega
   obtain ⟨y,hy⟩:=Ac T.N k hkl;obtain ⟨b,off,hab,hb,-,c0,c1,c2,c3,c4,c5,c6⟩:=(hTW.out.gr hg).n.get hy;rw [← haN.out] at hab;subst hab;have hne:=hf3.out k y hlt hy;have tp:(y.e.id == id) = false:=by simpa using hne
   replace hy:=zH hy;replace hne:=zH hne;go_wp2_with fail;go_roundw;case rel => exact ⟨k + 1,by omega,by go_num,hg.trans ((Gr.refl _).alloc _)⟩
   case measure => simp [intOf];omega
  ·have hki:k = i:=by omega
   subst hki;have tk:(k:Int) < T.N.length:=by omega
   obtain ⟨b,off,hab,hb,-,c0,c1,c2,c3,c4,c5,c6⟩:=(hTW.out.gr hg).n.get hf1.out;rw [← haN.out] at hab;subst hab;have tp:(x.e.id == id) = true:=by simpa using hf2.out
   have hR2:=hR.out.gr hg;obtain ⟨r0,r1,r2,r3,r4,r5,r6⟩:=hR2.c7;have fr:=fun i => hR2.free i
   have hwz:=hWz.out;have hgz:=hg.size;replace hR2:=zH hR2;have hz1:w.heap.size + 1 < wr.heap.size:=by omega
   go_wp2_with fail;obtain ⟨w9,hw9⟩:=zE (((((((wr.setCell ⟨w.heap.size + 1,0,none⟩ (.int .i64 x.e.id)).setCell ⟨w.heap.size + 1,1,none⟩ (.int .i64 x.e.par)).setCell ⟨w.heap.size + 1,2,none⟩ (.int .i64 x.e.srv.k)).setCell ⟨w.heap.size + 1,3,none⟩ (.int .i64 x.e.srv.q)).setCell ⟨w.heap.size + 1,4,none⟩ (.int .i64 x.e.srv.t)).setCell ⟨w.heap.size + 1,5,none⟩ (.int .i64 x.e.pol)).setCell ⟨w.heap.size + 1,6,none⟩ (.slice x.a x.e.tasks.length x.c));rw [← hw9];have gxw9:Aw [w.heap.size + 1] wr w9:=by
    rw [hw9];exact ((((((((Aw.refl _ _).set (.inl (by simp)) _).set (.inl (by simp)) _).set (.inl (by simp)) _).set (.inl (by simp)) _).set (.inl (by simp)) _).set (.inl (by simp)) _).set (.inl (by simp)) _)
   have hR8:Ag w9 (w.heap.size + 1) #[.int .i64 x.e.id,.int .i64 x.e.par,.int .i64 x.e.srv.k,.int .i64 x.e.srv.q,.int .i64 x.e.srv.t,.int .i64 x.e.pol,.slice x.a x.e.tasks.length x.c] 39:=by
    rw [hw9];exact (((((((hR2.out.set 0 (.int .i64 x.e.id)).set 1 (.int .i64 x.e.par)).set 2 (.int .i64 x.e.srv.k)).set 3 (.int .i64 x.e.srv.q)).set 4 (.int .i64 x.e.srv.t)).set 5 (.int .i64 x.e.pol)).set 6 (.slice x.a x.e.tasks.length x.c))
   have hR9:=hR8.alloc x.obj;obtain ⟨d0,d1,d2,d3,d4,d5,d6⟩:=hR9.c7;refine bodyPost_ret (v:=.tuple #[.agg #[.int .i64 x.e.id,.int .i64 x.e.par,.int .i64 x.e.srv.k,.int .i64 x.e.srv.q,.int .i64 x.e.srv.t,.int .i64 x.e.pol,.slice x.a x.e.tasks.length x.c],.bool true]) (by simp [results,Tryz.results50,go_sem,d0,d1,d2,d3,d4,d5,d6]) rfl ⟨rfl,?_⟩;exact (gxw9.all (gW.trans hg) (fun y hy => by simp at hy;omega)).alloc _
end Go.Proofs.YtdfelohjdkcpkaaGreatDoor
