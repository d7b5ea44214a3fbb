/- wal.Open. Printed by gen_i38.py. -/
import Derived.Test.YteigofaccjaobaaGreatDoorKL14
namespace Go.Proofs.YteigofaccjaobaaGreatDoor
open Go.RowKit
structure Itm where
 a:Option Addr
 c:Nat
 b:List UInt8
abbrev itC (x:Itm):List Value:=[.slice x.a x.b.length x.c]
theorem itC_len (x:Itm):(itC x).length = 1:=rfl
theorem itC_one (x:Itm):∀ u ∈ itC x,u.oneCell' = true:=by intro u hu;simp at hu;subst hu;rfl
def Rising (l:List Itm):Prop:=∀ (i j:Nat) (x y:Itm) (p q:Addr),i < j→l[i]? = some x→l[j]? = some y→x.a = some p→y.a = some q→p.block < q.block
theorem Rising.nil:Rising []:=fun i _ _ _ _ _ _ h => by simp at h
theorem Rising.snoc {l:List Itm} {z:Itm} {n:Nat} (h:Rising l) (h1:∀ x ∈ l,∀ p,x.a = some p→p.block < n) (h2:∀ q,z.a = some q→n≤q.block):Rising (l ++ [z]):=fun i j x y p q hij hx hy hp hq => by
 rcases snoc_get hy with hy2 | ⟨ej,ey⟩
 ·have hj:=get_lt hy2;rcases snoc_get hx with hx2 | ⟨ei,ex⟩
  ·exact h i j x y p q hij hx2 hy2 hp hq
  ·omega
 ·rcases snoc_get hx with hx2 | ⟨ei,ex⟩
  ·have h3:=h1 x (get_mem hx2) p hp;have h4:=h2 q (by rw [← ey];exact hq);omega
  ·omega
theorem results_tmp4 {fn:Func} {t u v x:Tmp} (h:fn.results = #[.tmp t,.tmp u,.tmp v,.tmp x]) (tmps:Array Value) (P:Program) (w:World) :
 (results fn tmps).run P w = .ok (.tuple #[tmps.getD t undef,tmps.getD u undef,tmps.getD v undef,tmps.getD x undef]) w:=by
 simp [results,h]
theorem wpList_appIt {B:Nat} {w:World} {ops:Array Oper} {rest:List Oper} {o:Oper} {a:Act} {Q:Exit→Act→World→Prop} (hgd:o.guard = none) (s x:Operand)
 (ho:o.op = .call { callee:=.builtin .append,args:=#[s,x],argTypes:=#[109,109] }) (a1:Option Addr) (c1 n1:Nat) (L1:List (Itm)) (hs:a.eval s = .slice a1 n1 c1) (hn:L1.length = n1) (hO:w.ownsRow B 91 1 (.slice a1 n1 c1) L1.length (L1.flatMap itC))
 (tb:Nat) (y:Itm) (hx:a.eval x = .slice (some ⟨tb,0,none⟩) 1 1) (hl:RecsAt 1 itC w (some ⟨tb,0,none⟩) [y]) (hb:n1 + 1≤1000000) (hB:B≤w.heap.size)
 (h:∀ a' c' w',w'.ownsRow B 91 1 (.slice a' (n1 + 1) c') (L1 ++ [y]).length ((L1 ++ [y]).flatMap itC)→RecsAt 1 itC w' a' (L1 ++ [y])→(∀ z,a' = some z→B≤z.block)→w.grownBy w' (Value.slice a1 n1 c1).ownBlock→(∀ z,a' = some z→(∃ q,a1 = some q∧z.block = q.block) ∨ z.block = w.heap.size)→n1 + 1≤c'→wpList Tryz.prog ops Q rest (a.put o.dst (.slice a' (n1 + 1) c')) w'):wpList Tryz.prog ops Q (o :: rest) a w:=by
 subst hn;obtain ⟨i5,hi,hz0,hz1,hz2⟩:=info_parts Tryz.infoBS;refine wpList_append_at (k:=1) (enc:=itC) hgd s x 109 ho B 91 i5 _ 24 Tryz.underlying109 hi hz0 hz1 hz2 rfl (by decide) itC_len itC_one (.slice a1 L1.length c1) L1 hs hO (some ⟨tb,0,none⟩) 1 [y] hx hl (fun h => by cases h) (by simp;unfold maxLen;omega) (by simp;omega) hB ?_;intro v2 w2 hown2 hgr2 hat;have hl2:(L1 ++ [y]).length = L1.length + 1:=by simp
 obtain ⟨a2,c2,hv2,hr2,hn2,hB2⟩:=recs_of_owns itC_len hown2;subst hv2;have hcap:L1.length + 1≤c2:=by
  have hu:=hown2.2;rw [hl2] at hu;rcases hu with ⟨h1,h2⟩ | ⟨g1,c9,u1,h1,h2,h3,h4,h5⟩
  ·injection h1 with p q r
   omega
  ·injection h1 with p q r
   omega
 have hpl:=place_of rfl rfl hat;rw [hl2] at hown2 ⊢;exact h a2 c2 w2 (by rw [hl2];exact hown2) hr2 hB2 hgr2 hpl hcap
def opnL (d:DskV):LogV:=⟨secondD d,numF (newR d),fmtT d + 1,newR d⟩
structure OpnP (W:World) (E:Nat→Addr) (db:Nat) (M:DskM) (w:World) (q:Ending) (w':World):Prop where
 x:∃ (lb:Nat) (M':DskM) (L':LogM) (it:Itm) (I:List Itm) (pb po:Nat),q = .returned (.tuple #[.pointer (some ⟨lb,0,none⟩),.slice it.a it.b.length it.c,.slice (some ⟨pb,po,none⟩) I.length I.length,.nilIface])∧M'.d = claimD M.d (fmtT M.d + 1)∧L'.v = opnL M.d∧M'.m + M'.d.C.length≤M.m + M.d.C.length + 600∧DskAt w' db M'∧LogAt W w' lb db M'.d L'∧(∀ y ∈ M'.own db,y ∈ M.own db ∨ w.heap.size≤y)∧(∀ y ∈ L'.own lb,w.heap.size≤y) ∧
  (it :: I).map (·.b) = (newR M.d).map (·.d)∧Rising (it :: I)∧(∀ x ∈ it :: I,OwnX w w' x.a x.c x.b)∧RecsAt 1 itC w' (some ⟨pb,po,none⟩) I∧w.heap.size≤pb∧(∀ r ∈ L'.R,∀ p,r.a = some p→∀ x ∈ it :: I,∀ s,x.a = some s→p.block < s.block)
 g:GrX (M.own db) w w'
set_option maxRecDepth 100000 in
theorem open_lost {G:List Nat} {E:Nat→Addr} (W w:World) (hE:EAt G E W) (gW:Gr W w) (i4:0 ∈ G) (i5:1 ∈ G) {db:Nat} {M:DskM} (hD:DskAt w db M) (hl:M.d.lost = true) (hn:4≤M.d.n) :
 Calls Tryz.prog 43 #[.pointer (some ⟨db,0,none⟩)] w fun q w' => q = .returned (.tuple #[.pointer none,.slice none 0 0,.slice none 0 0,lostE E])∧Gr w w':=by
 have hbo:=both_lost w (hE.gr gW) i4 i5 hD hl hn;replace hbo:=Lib.hid hbo;replace hD:=Lib.hid hD;replace hE:=Lib.hid hE;go_enter Tryz.func43,Tryz.ntmps43;go_wp2_with fail;refine hbo.out.mono ?_;rintro q w1 ⟨rfl,g1⟩;obtain ⟨w2,hw2⟩:∃ w2,w2 = (w1.alloc (.cells arZ 158)).alloc (.cells arZ 158):=⟨_,rfl⟩
 have g2:Gr w w2:=by rw [hw2];exact (g1.alloc _).alloc _
 replace hw2:=Lib.hid hw2;go_upto_region 2 with fail
 rw [← hw2.out];go_wp2_with fail
 (try simp only [Exit.inBlock,Exit.then])
 refine bodyPost_ret (results_tmp4 rfl _ _ _) rfl ?_;exact ⟨rfl,g2⟩
theorem rs_gen {rs:List Rc} (h:RcsOk rs) {r:Rc} (hr:r ∈ rs):r.g = numF rs:=by
 cases rs with
 | nil => cases hr
 | cons x y =>
  obtain ⟨i,hi⟩:=List.getElem?_of_mem hr;exact (h.g i r hi).2 x rfl
def RiseE (rs:List Rc):Prop:=∀ r ∈ rs,r.e≤lastE rs
theorem RiseE.snoc {rs:List Rc} {r:Rc} (h:RiseE rs) (hf:folF rs r):RiseE (rs ++ [r]):=fun x hx => by
 rw [lastE_snoc];rcases List.mem_append.1 hx with hx | hx
 ·have h1:=h x hx;rcases List.eq_nil_or_concat rs with e | ⟨rs',l,e⟩
  ·subst e;cases hx
  ·rw [List.concat_eq_append] at e;subst e;rw [folF_snoc] at hf;rw [lastE_snoc] at h1;exact Nat.le_trans h1 hf.2.2
 ·rw [List.mem_singleton.1 hx];exact Nat.le_refl _
theorem scanF_rise:∀ (f:Nat) (L:List (List UInt8)) {rs:List Rc},RiseE rs→RiseE (scanF f L rs)
 | 0,_,_,h => h
 | f + 1,L,rs,h => by
  unfold scanF;split
  ·split
   ·rename_i hf;exact scanF_rise f L (h.snoc hf)
   ·exact h
  ·exact h
theorem newR_rise (d:DskV):RiseE (newR d):=by
 unfold newR;split
 ·exact scanF_rise _ _ (fun _ h => by cases h)
 ·exact scanF_rise _ _ (fun _ h => by cases h)
theorem rs_epoch (d:DskV) {r:Rc} (hr:r ∈ newR d):r.e≤fmtT d + 1:=by
 have h1:=newR_rise d r hr;have h2:lastE (newR d)≤fmtT d:=by
  unfold fmtT topF topS topS topS;omega
 omega
set_option maxRecDepth 100000 in
set_option maxHeartbeats 3200000 in
theorem open_yes {G:List Nat} {E:Nat→Addr} (W w:World) (hE:EAt G E W) (gW:Gr W w) (i4:0 ∈ G) (i5:1 ∈ G) (i1:3 ∈ G) (i2:9 ∈ G) (i3:5 ∈ G) (i6:2 ∈ G) {db:Nat} {M:DskM} (hD:DskAt w db M) (hl:M.d.lost = false) (hC:M.m + M.d.C.length≤800000) (h4:4≤M.d.n) (hz:numF (newR M.d) ≠ 0) (ht:fmtT M.d < 1099511627776) :
 Calls Tryz.prog 43 #[.pointer (some ⟨db,0,none⟩)] w (OpnP W E db M w):=by
 have hn1:=hD.ok.n1;have hlt:=hD.lt;obtain ⟨hok,huo⟩:=newR_ok hD.ok;have hlE:=lastE_le hok;have hgN:=numF_le hok;have hbo:=both_yes w (hE.gr gW) i4 i5 i1 i2 i3 hD hl (by omega) h4;have hHe:halfD M.d≤511:=by unfold halfD;omega
 have hrl0:=usedR_ge (newR M.d);obtain ⟨f1,hf1⟩:∃ f1,f1 = firstD M.d (secondD M.d):=⟨_,rfl⟩
 obtain ⟨f2,hf2⟩:∃ f2,f2 = firstD M.d (!secondD M.d):=⟨_,rfl⟩
 obtain ⟨H,hH⟩:∃ H,H = halfD M.d:=⟨_,rfl⟩
 obtain ⟨N,hN⟩:∃ N,N = newR M.d:=⟨_,rfl⟩
 obtain ⟨u1,hu1⟩:∃ u1,u1 = usedR N:=⟨_,rfl⟩
 obtain ⟨m,hm⟩:∃ m,m = numF N:=⟨_,rfl⟩
 unfold BothP at hbo;rw [← hf1,← hf2,← hH,← hN,← hu1] at hbo;rw [← hN] at hz hlE hgN hrl0 huo;rw [← hH] at hHe huo;rw [← hm] at hz hgN;rw [← hu1] at hrl0 huo;replace hbo:=Lib.hid hbo;replace hf1:=Lib.hid hf1;replace hf2:=Lib.hid hf2;replace hH:=Lib.hid hH;replace hN:=Lib.hid hN;replace hm:=Lib.hid hm;replace hlE:=Lib.hid hlE;replace hok:=Lib.hid hok;replace hD:=Lib.hid hD;replace hE:=Lib.hid hE;replace hl:=Lib.hid hl;replace hlt:=Lib.hid hlt;have hmb:((m:Int) == 0) = false:=beq_eq_false_iff_ne.2 (by omega);replace hz:=Lib.hid hz;replace hu1:=Lib.hid hu1;go_enter Tryz.func43,Tryz.ntmps43;go_wp2_with fail;refine hbo.out.mono ?_;rintro q w1 ⟨g1,R,ra,rc,ra2,k2,rc2,u2,hRn,rfl,hR⟩;obtain ⟨k,hk⟩:∃ k,k = R.length:=⟨_,rfl⟩
 have hRl:R.length≤1000:=by
  have:N.length = R.length:=by rw [← hRn,List.length_map]
  omega
 rw [← hk];obtain ⟨w2,hw2⟩:∃ w2,w2 = (w1.alloc (.cells #[.int .i64 f1,.int .i64 H,.int .i64 u1,.slice ra k rc] 158)).alloc (.cells #[.int .i64 f2,.int .i64 H,.int .i64 u2,.slice ra2 k2 rc2] 158):=⟨_,rfl⟩
 have g12:Gr w1 w2:=by rw [hw2];exact ((Gr.refl _).alloc _).alloc _
 obtain ⟨n6,hn6⟩:∃ n6,n6 = w1.heap.size:=⟨_,rfl⟩
 obtain ⟨n7,hn7⟩:∃ n7,n7 = w1.heap.size + 1:=⟨_,rfl⟩
 have hA2:Blk w2 n6 #[.int .i64 f1,.int .i64 H,.int .i64 u1,.slice ra k rc] 158:=by rw [hw2,hn6];exact (Blk.new _ _ _).alloc _
 have hB2:Blk w2 n7 #[.int .i64 f2,.int .i64 H,.int .i64 u2,.slice ra2 k2 rc2] 158:=by rw [hw2,hn7];exact Blk.new1 (by simp)
 have hs1:=g1.size;replace hA2:=Lib.hid hA2;replace hB2:=Lib.hid hB2;replace hw2:=Lib.hid hw2;replace hn6:=Lib.hid hn6;replace hn7:=Lib.hid hn7;replace hRn:=Lib.hid hRn;replace hR:=Lib.hid hR;replace hk:=Lib.hid hk;have g02:=g1.trans g12;have hR2:=hR.out.gr g12;have hnu:Calls Tryz.prog 75 #[.pointer (some ⟨n6,0,none⟩)] w2 fun e w' => e = .returned (.int .i64 (m:Int))∧w' = w2:=by
  have:=number_area w w2 n6 f1 H u1 ra rc R (by rw [← hk.out];exact hA2.out) hR2;rw [hRn.out,← hm.out] at this;exact this
 replace hnu:=Lib.hid hnu;replace hR2:=Lib.hid hR2;go_upto_region 2 with fail
 rw [← hw2.out,← hn7.out,← hn6.out];go_wp2_with fail;refine hnu.out.mono ?_;rintro q w5 ⟨rfl,hw5⟩;subst w5;have hmp:1≤m:=by have:=hz.out;omega
 have hkm:N.length = k:=by rw [← hRn.out,List.length_map];exact hk.out.symm
 have c3:=hA2.out.cell (i:=3) (v:=.slice ra k rc) rfl;have zA:=hA2.out.lt;have hk1:k≤1000:=by rw [hk.out];exact hRl
 have hkp:1≤k:=by
  cases hNe:N with
  | nil => have h0:=hm.out;rw [hNe] at h0;have:m = 0:=h0;omega
  | cons x y => rw [← hkm,hNe,List.length_cons];omega
 replace hkm:=Lib.hid hkm;go_wp2_with fail;go_loopw [9,30] (fun sv iv wr => ∃ (i:Nat) (a':Option Addr) (c':Nat) (I:List Itm),i≤k∧iv = .int .i64 i∧sv = .slice a' i c'∧Hid (I.length = i∧I.map (·.b) = (N.map (·.d)).take i∧wr.ownsRow w2.heap.size 91 1 (.slice a' i c') I.length (I.flatMap itC)∧(∀ x ∈ I,OwnX w2 wr x.a x.c x.b)∧Rising I∧Gr w2 wr∧i≤c')) (fun _ iv _ => k - (intOf iv).toNat);case atStart => exact ⟨0,none,0,[],Nat.zero_le _,rfl,rfl,Lib.hid ⟨rfl,rfl,World.ownsRow_nil _ _ _ _,(fun _ h => by cases h),Rising.nil,Gr.refl _,Nat.le_refl _⟩⟩
 case round =>
  obtain ⟨i,a',c',I,hik,rfl,rfl,hI⟩:=hrel;obtain ⟨j1,j2,j3,j4,j5,j6,j7⟩:=hI.out;clear hI;obtain ⟨wo,rfl⟩:∃ wo:World,wo = wr:=⟨wr,rfl⟩
  by_cases hlt:i < k
  ·obtain ⟨y,hy⟩:=get_some R i (by rw [← hk.out];exact hlt);have hRo:=hR2.out.gr j6;obtain ⟨rb,ro,rfl,hrb,r0,r1,r2,r3⟩:=hRo.cell hy;obtain ⟨w3,hw3⟩:∃ w3,w3 = wo.alloc (.cells #[.int .i64 y.r.g,.int .i64 y.r.e,.int .i64 y.r.i,.slice y.a y.r.d.length y.c] 167):=⟨_,rfl⟩
   have g3:Gr wo w3:=by rw [hw3];exact (Gr.refl _).alloc _
   obtain ⟨nr,hnr⟩:∃ nr,nr = wo.heap.size:=⟨_,rfl⟩
   have hB3:Blk w3 nr #[.int .i64 y.r.g,.int .i64 y.r.e,.int .i64 y.r.i,.slice y.a y.r.d.length y.c] 167:=by rw [hw3,hnr];exact Blk.new _ _ _
   have hyo:=(hRo.d y (get_mem hy)).gr g3;have hyl:y.r.d.length≤32768:=by
    have:y.r ∈ N:=by rw [← hRn.out];exact List.mem_map.2 ⟨y,get_mem hy,rfl⟩
    exact (hok.out.o y.r (by rw [← hN.out];exact this)).1.d
   have hcl:=cloneB_any w3 y.a y.c y.r.d hyo.2.1 hyo.2.2.1 (by omega);obtain ⟨dl,hdl⟩:∃ dl,dl = y.r.d.length:=⟨_,rfl⟩
   rw [← hdl] at hcl r3 hw3 hB3;have b3:=hB3.cell (i:=3) (v:=.slice y.a dl y.c) rfl;have zb:=hB3.lt;have hib:decide ((i:Int) < k) = true:=decide_eq_true (by omega);have hi2:(i:Int) < k:=by omega
   replace j1:=Lib.hid j1;replace j2:=Lib.hid j2;replace j3:=Lib.hid j3;replace j4:=Lib.hid j4;replace j5:=Lib.hid j5;replace hy:=Lib.hid hy;replace hRo:=Lib.hid hRo;replace hw3:=Lib.hid hw3;replace hnr:=Lib.hid hnr;replace hB3:=Lib.hid hB3;replace hyo:=Lib.hid hyo;replace hcl:=Lib.hid hcl;replace hdl:=Lib.hid hdl;go_upto_region 10 with fail
   rw [← hw3.out,← hnr.out];go_upto_region 10 with fail
   go_wp2_with fail;refine hcl.out.mono ?_;rintro q w4 ⟨a4,c4,rfl,h4o⟩;have g4:=h4o.2.2.2.2;obtain ⟨w5,hw5⟩:∃ w5,w5 = w4.alloc (.cells #[.slice a4 dl c4] 91):=⟨_,rfl⟩
   have g5:Gr w4 w5:=by rw [hw5];exact (Gr.refl _).alloc _
   have g35:=g3.trans (g4.trans g5);have hT5:RecsAt 1 itC w5 (some ⟨w4.heap.size,0,none⟩) [(⟨a4,c4,y.r.d⟩:Itm)]:=by
    rw [hw5,hdl.out];exact recs_alloc1 itC_len w4 rfl [(⟨a4,c4,y.r.d⟩:Itm)] _ _ rfl
   have hO5:=owns_gr j3.out g35;have h45:=h4o.x.gr g5;have hs3:=g3.size;have hs35:=g35.size;have hs6:=j6.size;have hB5:w2.heap.size≤w5.heap.size:=by omega
   have hi1:i + 1≤1000000:=by omega
   replace h4o:=Lib.hid h4o;replace hw5:=Lib.hid hw5;replace hT5:=Lib.hid hT5;replace hO5:=Lib.hid hO5;replace h45:=Lib.hid h45;go_wp2_with (at_builtin;go_loud (rw [← hw5.out];refine wpList_appIt (B:=w2.heap.size) rfl _ _ rfl a' c' i I rfl j1.out hO5.out w4.heap.size ⟨a4,c4,y.r.d⟩ rfl hT5.out hi1 hB5 ?_;intro a9 c9 w9 hO9 hR9 hB9 hg9 hp9 hc9;replace hO9:=Lib.hid hO9;replace hR9:=Lib.hid hR9;replace hB9:=Lib.hid hB9;replace hg9:=Lib.hid hg9;replace hp9:=Lib.hid hp9));go_roundw;case rel =>
    have hap:∀ (x:Itm) (W1:World),OwnX W1 w5 x.a x.c x.b→OwnX W1 w9 x.a x.c x.b:=fun x W1 hx => hx.grown hg9.out (fun p hp e => owns_apart hx.1 hO5.out (by decide) (own_blk hp) e.symm)
    refine ⟨i + 1,a9,c9,I ++ [⟨a4,c4,y.r.d⟩],by omega,by go_num,rfl,Lib.hid ⟨by rw [List.length_append,j1.out];rfl,?_,hO9.out,fun x hx => ?_,?_,?_,hc9⟩⟩
    ·rw [List.map_append,j2.out];have hNy:(N.map (·.d))[i]? = some y.r.d:=by rw [← hRn.out,List.map_map,List.getElem?_map,hy.out];rfl
     rw [take_snoc hNy];rfl
    ·rcases List.mem_append.1 hx with h1 | h1
     ·exact hap x w2 ((j4.out x h1).gr g35)
     ·rw [List.mem_singleton.1 h1];exact hap _ w2 (h45.out.older (by omega))
    ·refine j5.out.snoc (n:=w3.heap.size) (fun x hx p hp => ?_) (fun q hq => ?_)
     ·have:=(j4.out x hx).lt hp;omega
     ·exact h45.out.2.2.2 q hq
    ·exact (j6.trans g35).grown hg9.out (fun y2 hy2 => by
      cases ha':a' with
      | none => rw [ha'] at hy2;cases hy2
      | some q2 =>
       rw [ha'] at hy2;cases hy2
       have:=j3.out;rw [ha'] at this;exact (owns_lt this _ rfl).2)
   case measure => simp [intOf];omega
  ·obtain rfl:i = k:=by omega
   have hib:decide ((i:Int) < i) = false:=decide_eq_false (by omega);have hIN:I.map (·.b) = N.map (·.d):=by rw [j2,List.take_of_length_le (by rw [List.length_map,hkm.out];exact Nat.le_refl _)]
   have hRo:=hR2.out.gr j6;have hAo:=hA2.out.gr j6;have g0o:=g02.trans j6;have hnx:=next_any wo (hE.out.gr (gW.trans g0o)) i4 i5 i1 i2 i3 i6 (hD.out.gr g0o) hl.out (by omega) h4 w f1 H u1 rc ra R hRo (by rw [← hk.out];exact hk1) (by rw [hRn.out];exact hlE.out);obtain ⟨T,hT⟩:∃ T,T = fmtT M.d:=⟨_,rfl⟩
   have hT2:topF M.d (R.map (·.r)) = T:=by rw [hRn.out,hN.out,hT];rfl
   rw [← hT] at ht;have hTle:T≤1099511627776:=by rw [hT];exact topS_le (by rw [← hN.out];exact hlE.out) _ _
   unfold NextP at hnx;rw [hT2,nextV_yes E ht,← hk.out] at hnx;have a0:=hAo.cell (i:=0) (v:=.int .i64 f1) rfl;have a1:=hAo.cell (i:=1) (v:=.int .i64 H) rfl;have a2:=hAo.cell (i:=2) (v:=.int .i64 u1) rfl;have a3:=hAo.cell (i:=3) (v:=.slice ra i rc) rfl;have zAo:=hAo.lt;replace j1:=Lib.hid j1;replace j2:=Lib.hid j2;replace j3:=Lib.hid j3;replace j4:=Lib.hid j4;replace j5:=Lib.hid j5;replace hIN:=Lib.hid hIN;replace hRo:=Lib.hid hRo;replace hAo:=Lib.hid hAo;replace hnx:=Lib.hid hnx;replace hT:=Lib.hid hT;replace hT2:=Lib.hid hT2;clear c3 zA;go_wp2_with fail;refine hnx.out.mono ?_;rintro q w7 ⟨g67,rfl⟩;clear a0 a1 a2 a3 zAo;have g07:=g0o.trans g67;have hlt9:M.d.lost = false:=hl.out;have hD7:=hD.out.gr g07;have hcl:Calls Tryz.prog 78 #[.pointer (some ⟨db,0,none⟩),.int .i64 ((T:Int) + 1)] w7 fun r w' => ∃ M',r = .returned .nilIface∧DskP db (claimD M.d (T + 1)) M M' w7 w'∧M'.m≤M.m + (M.d.C.length + 1):=claim_any w7 (hE.out.gr (gW.trans g07)) i4 i5 hD7 hlt9 (by omega) (by omega) h4 (T + 1) (by omega)
   replace hcl:=Lib.hid hcl;replace hD7:=Lib.hid hD7;go_wp2_with fail;refine hcl.out.mono ?_;rintro q w10 ⟨M1,rfl,hP1,hm1'⟩;have gx:=hP1.2.2.1;have hA7:=hAo.out.gr g67;have hAM:n6 ∉ M.own db:=blk_apart hA7 hD7.out (by decide) (by decide);have hA10:=hA7.grx gx hAM;have hR7:=hRo.out.gr g67;have hR10:RowAt w w10 ra rc R:=hR7.grx gx (fun y hy => own_apart hR7.o hD7.out (by decide) (by decide) y.block (own_blk hy)) (fun y hy z hz2 => own_apart (hR7.d y hy).1 hD7.out (by decide) (by decide) z.block (own_blk hz2));have hO7:=owns_gr j3.out g67;have hO10:=owns_grx hO7 gx (fun g hg => own_apart hO7 hD7.out (by decide) (by decide) g hg);have hI10:∀ x ∈ I,OwnX w2 w10 x.a x.c x.b:=fun x hx => by
    have h7:=(j4.out x hx).gr g67;exact h7.grx gx (fun p hp => own_apart h7.1 hD7.out (by decide) (by decide) p.block (own_blk hp))
   have hn1':M1.d.n = M.d.n:=by rw [hP1.1];rfl
   have hC1':M1.d.C.length = 0:=by rw [hP1.1];rfl
   have hown1:∀ y ∈ M1.own db,y ∈ M.own db ∨ w.heap.size≤y:=fun y hy => (hP1.2.2.2 y hy).imp id (fun h0 => Nat.le_trans g07.size h0)
   have g010:GrX (M.own db) w w10:=(g07.x _).trans gx;have hd1:M1.d = claimD M.d (fmtT M.d + 1):=by rw [hP1.1,hT.out]
   have hRw:∀ r ∈ R,∀ p,r.a = some p→p.block < w2.heap.size:=fun r hr p hp => (hR2.out.d r hr).lt hp
   obtain ⟨pb,po,rfl⟩:∃ pb po,a' = some ⟨pb,po,none⟩:=by
    obtain ⟨a8,c8,e8,hr8,-,-⟩:=recs_of_owns itC_len hO10;obtain ⟨x0,hx0⟩:=get_some I 0 (by rw [j1.out];omega);obtain ⟨b',o',ha,-⟩:=hr8 0 x0 hx0;injection e8 with p1 p2 p3
    exact ⟨b',o',p1.trans ha⟩
   obtain ⟨I0,I1,hIe⟩:∃ I0 I1,I = I0 :: I1:=by
    cases hI0:I with
    | nil => have:=j1.out;rw [hI0] at this;simp at this;omega
    | cons x y => exact ⟨x,y,rfl⟩
   have hr10:RecsAt 1 itC w10 (some ⟨pb,po,none⟩) I:=by
    obtain ⟨a8,c8,e8,hr8,-,-⟩:=recs_of_owns itC_len hO10;injection e8 with p1 p2 p3
    rw [p1];exact hr8
   have hpb2:w2.heap.size≤pb:=(owns_lt hO10 _ rfl).2;have hI1l:I1.length + 1 = i:=by have:=j1.out;rw [hIe,List.length_cons] at this;exact this
   have hc00:w10.cell? ⟨pb,po,none⟩ = some (.slice I0.a I0.b.length I0.c):=by
    obtain ⟨b',o',ha,-,hcl2⟩:=hr10 0 I0 (by rw [hIe];rfl);cases ha
    have h2:=hcl2 0 _ rfl;simpa using h2
   have hpbl:pb < w10.heap.size:=hr10.lt (x:=⟨pb,po,none⟩) rfl (by rw [hIe];simp);obtain ⟨l0,hl0⟩:∃ l0,l0 = I0.b.length:=⟨_,rfl⟩
   rw [← hl0] at hc00;have n0:=hA10.cell (i:=0) (v:=.int .i64 f1) rfl;have n1:=hA10.cell (i:=1) (v:=.int .i64 H) rfl;have n2:=hA10.cell (i:=2) (v:=.int .i64 u1) rfl;have n3:=hA10.cell (i:=3) (v:=.slice ra i rc) rfl;have zN:=hA10.lt;have hnu10:Calls Tryz.prog 75 #[.pointer (some ⟨n6,0,none⟩)] w10.drew fun e w' => e = .returned (.int .i64 (m:Int))∧w' = w10.drew:=by
    have:=number_area w w10.drew n6 f1 H u1 ra rc R (by rw [← hk.out];exact hA10.drew) (hR10.gr (Gr.refl _).drew);rw [hRn.out,← hm.out] at this;exact this
   obtain ⟨w11,hw11⟩:∃ w11,w11 = (w10.alloc (.cells #[.pointer (some ⟨db,0,none⟩),.int .i64 f1,.int .i64 H,.int .i64 u1,.slice ra i rc,.int .i64 m,.int .i64 ((T:Int) + 1)] 164)).drew:=⟨_,rfl⟩
   have g1011:Gr w10 w11:=by rw [hw11];exact ((Gr.refl _).alloc _).drew
   obtain ⟨lb,hlbe⟩:∃ lb,lb = w10.heap.size:=⟨_,rfl⟩
   have hL11:Blk w11 lb #[.pointer (some ⟨db,0,none⟩),.int .i64 f1,.int .i64 H,.int .i64 u1,.slice ra i rc,.int .i64 m,.int .i64 ((T:Int) + 1)] 164:=by rw [hw11,hlbe];exact (Blk.new _ _ _).drew
   have hs010:=g010.size;have hfin:∀ w12,Gr w11 w12→∀ (p2:Nat),(I1 = [] ∨ p2 = po + 1)→OpnP W E db M w (.returned (.tuple #[.pointer (some ⟨lb,0,none⟩),.slice I0.a l0 I0.c,.slice (some ⟨pb,p2,none⟩) (i - 1) (i - 1),.nilIface])) w12:=fun w12 g12' p2 hp2 => by
    have g1012:=g1011.trans g12';have hRl2:=hR10.gr g1012;refine ⟨⟨lb,M1,⟨secondD M.d,numF (newR M.d),fmtT M.d + 1,R,ra,rc⟩,I0,I1,pb,p2,?_,hd1,?_,by omega,hP1.2.1.gr g1012,⟨?_,?_,?_,?_⟩,hown1,fun y hy => ?_,?_,?_,?_,?_,by have:=g02.size;omega,?_⟩,g010.gr g1012⟩
    ·rw [hl0,show i - 1 = I1.length by omega]
    ·show (⟨secondD M.d,numF (newR M.d),fmtT M.d + 1,R.map (·.r)⟩:LogV) = opnL M.d;rw [hRn.out,hN.out];rfl
    ·have e1:firstD M1.d (secondD M.d) = f1:=by rw [hf1.out];unfold firstD halfD;rw [hn1']
     have e2:halfD M1.d = H:=by rw [hH.out];unfold halfD;rw [hn1']
     have e3:usedR (LogM.rs ⟨secondD M.d,numF (newR M.d),fmtT M.d + 1,R,ra,rc⟩) = u1:=by show usedR (R.map (·.r)) = u1;rw [hRn.out,hu1.out]
     show Blk w12 lb (logC db (firstD M1.d (secondD M.d)) (halfD M1.d) (usedR (LogM.rs ⟨secondD M.d,numF (newR M.d),fmtT M.d + 1,R,ra,rc⟩)) ra R.length rc (numF (newR M.d)) (fmtT M.d + 1)) _;rw [e1,e2,e3,← hk.out,← hN.out,← hm.out,← hT.out];exact hL11.gr g12'
    ·exact ⟨⟨hRl2.o.1,by
      rcases hRl2.o.2 with h0 | ⟨b8,cp8,cu8,e8,e9,e10⟩
      ·exact .inl h0
      ·exact .inr ⟨b8,cp8,cu8,e8,by have:=gW.size;omega,e10⟩⟩,fun x hx => (hRl2.d x hx).older gW.size⟩
    ·have:=gW.size;show W.heap.size≤lb;omega
    ·refine ⟨?_,?_,?_,?_,?_,fun r hr => ?_⟩
     ·show usedR (R.map (·.r))≤halfD M1.d;rw [hRn.out,show halfD M1.d = H by rw [hH.out];unfold halfD;rw [hn1'],← hu1.out];exact huo
     ·show 1≤(R.map (·.r)).length;rw [List.length_map,← hk.out];omega
     ·show numF (newR M.d)≤_;rw [← hN.out,← hm.out];exact hgN
     ·show fmtT M.d + 1≤_;rw [← hT.out];omega
     ·show RcsOk (R.map (·.r));rw [hRn.out,hN.out];exact hok.out
     ·have hr2:r ∈ newR M.d:=by rw [← hN.out,← hRn.out];exact hr
      exact ⟨rs_gen hok.out hr2,rs_epoch M.d hr2⟩
    ·rcases List.mem_cons.1 hy with rfl | hy
     ·omega
     ·cases hra:ra with
      | none => rw [show (LogM.ra ⟨secondD M.d,numF (newR M.d),fmtT M.d + 1,R,ra,rc⟩) = none from hra] at hy;cases hy
      | some q2 =>
       rw [show (LogM.ra ⟨secondD M.d,numF (newR M.d),fmtT M.d + 1,R,ra,rc⟩) = some q2 from hra] at hy;rw [List.mem_singleton.1 (show y ∈ [q2.block] from hy)];exact (hRl2.lo q2 hra).1
    ·rw [← hIe,hIN.out,hN.out]
    ·rw [← hIe];exact j5.out
    ·intro x hx;rw [← hIe] at hx;exact ((hI10 x hx).gr g1012).older g02.size
    ·rcases hp2 with h0 | rfl
     ·rw [h0];intro i8 s8 h8;simp at h8
     ·have h9:=RecsAt.gr' hr10 g1012;rw [hIe] at h9;intro i8 s8 h8;obtain ⟨b',o',ha,hb',hcl2⟩:=h9 (i8 + 1) s8 h8;cases ha
      refine ⟨pb,po + 1,rfl,hb',fun j u hu => ?_⟩;have:=hcl2 j u hu
      rwa [show po + 1 + i8 * 1 + j = po + (i8 + 1) * 1 + j by omega]
    ·intro r hr p hp x hx s hs;rw [← hIe] at hx;have h1:=hRw r hr p hp;have h2:=(hI10 x hx).2.2.2 s hs;omega
   replace hfin:=Lib.hid hfin;replace hP1:=Lib.hid hP1;replace gx:=Lib.hid gx;replace hA7:=Lib.hid hA7;replace hA10:=Lib.hid hA10;replace hR7:=Lib.hid hR7;replace hR10:=Lib.hid hR10;replace hO7:=Lib.hid hO7;replace hO10:=Lib.hid hO10;replace hI10:=Lib.hid hI10;replace hown1:=Lib.hid hown1;replace hd1:=Lib.hid hd1;replace hRw:=Lib.hid hRw;replace hr10:=Lib.hid hr10;replace hnu10:=Lib.hid hnu10;replace hw11:=Lib.hid hw11;replace hlbe:=Lib.hid hlbe;replace hL11:=Lib.hid hL11;replace hIe:=Lib.hid hIe;replace hI1l:=Lib.hid hI1l;replace hl0:=Lib.hid hl0;go_upto_region 18 with fail
   go_region_held3 (fun w' => w'.cell? ⟨n6,0,none⟩ = some (.int .i64 f1)∧w'.cell? ⟨n6,1,none⟩ = some (.int .i64 H)∧w'.cell? ⟨n6,2,none⟩ = some (.int .i64 u1)∧w'.cell? ⟨n6,3,none⟩ = some (.slice ra i rc)) (simp (maxDischargeDepth:=8) [go_sem, *])
    (first
     | (go_at_call 75;(with_reducible refine hnu10.out.mono ?_);rintro q wA ⟨rfl,hwA⟩;subst wA)
     | fail)
   rw [← hw11.out,← hlbe.out];clear n0 n1 n2 n3 zN;have hc11:w11.cell? ⟨pb,po,none⟩ = some (.slice I0.a l0 I0.c):=(g1011.cells.1 _ _ hpbl).trans hc00;have hc12:=GrW.cell hc11;have hpl11:pb < w11.heap.size:=by have:=g1011.size;omega
   clear hc00 hc11;by_cases hi1:i = 1
   ·obtain rfl:i = 1:=hi1;have hnil:I1 = []:=List.eq_nil_of_length_eq_zero (by have:=hI1l.out;omega);have hff:∀ w12,Gr w11 w12→OpnP W E db M w (.returned (.tuple #[.pointer (some ⟨lb,0,none⟩),.slice I0.a l0 I0.c,.slice (some ⟨pb,po,none⟩) 0 0,.nilIface])) w12:=fun w12 g => hfin.out w12 g po (.inl hnil)
    have z4:(1:Int)≤c':=by omega
    replace hff:=Lib.hid hff;replace hnil:=Lib.hid hnil;go_upto_region 19 with fail
    refine wp_region_grows (by kernel_rfl) (by kernel_rfl) ?_;repeat (any_goals (first | go_big_quiet_step (first | fail) | quiet_step (first | fail)))
    refine wpQuiet_nil ?_;intro wz hwq;have gz:=GrW.of hwq;clear hwq;obtain ⟨cz,fz,sz⟩:=gz.cells;try simp only [size_drewN] at cz fz sz
    try simp only [World.size_alloc] at cz fz sz
    try simp only [World.size_drew] at cz fz sz
    try simp only [World.size_setCell] at cz fz sz
    go_wp2_with fail
    (try simp only [Exit.inBlock,Exit.then])
    refine bodyPost_ret (results_tmp4 rfl _ _ _) rfl ?_;exact hff.out wz gz
   ·have z0:(0:Int) < i:=by omega
    have z1:0 < i:=by omega
    have z2:(1:Int)≤i:=by omega
    have z4:(i:Int)≤c':=by omega
    have z5:¬ i - 1 = 0:=by omega
    have z6:1 < i:=by omega
    have hff:∀ w12,Gr w11 w12→OpnP W E db M w (.returned (.tuple #[.pointer (some ⟨lb,0,none⟩),.slice I0.a l0 I0.c,.slice (some ⟨pb,po + 1,none⟩) (i - 1) (i - 1),.nilIface])) w12:=fun w12 g => hfin.out w12 g (po + 1) (.inr rfl)
    replace hff:=Lib.hid hff;go_upto_region 19 with fail
    refine wp_region_grows (by kernel_rfl) (by kernel_rfl) ?_;repeat (any_goals (first | go_big_quiet_step (first | fail) | quiet_step (first | fail)))
    refine wpQuiet_nil ?_;intro wz hwq;have gz:=GrW.of hwq;clear hwq;obtain ⟨cz,fz,sz⟩:=gz.cells;try simp only [size_drewN] at cz fz sz
    try simp only [World.size_alloc] at cz fz sz
    try simp only [World.size_drew] at cz fz sz
    try simp only [World.size_setCell] at cz fz sz
    go_wp2_with fail
    (try simp only [Exit.inBlock,Exit.then])
    refine bodyPost_ret (results_tmp4 rfl _ _ _) rfl ?_;exact hff.out wz gz
theorem vlegal_any (b:Bal) (w:World) :
 Calls Tryz.prog 81 #[.agg #[.int .i64 b.r,.int .i64 b.n]] w fun e w' => e = .returned (.bool (balB b))∧Gr w w':=by
 cases h:balB b
 ·have h:¬ (1≤b.r∧b.r≤1099511627776∧0≤b.n∧b.n≤6):=of_decide_eq_false h;go_enter Tryz.func81,Tryz.ntmps81;go_wp2;all_goals (go_ret;first | exact ⟨rfl,(Gr.refl _).alloc _⟩ | skip)
  all_goals (exact ⟨retb (by simp;omega),(Gr.refl _).alloc _⟩)
 ·obtain ⟨h1,h2,h3,h4⟩:(1≤b.r∧b.r≤1099511627776∧0≤b.n∧b.n≤6):=of_decide_eq_true h;go_enter Tryz.func81,Tryz.ntmps81;go_wp2;go_ret;exact ⟨retb (by first | rfl | (simp;omega)),(Gr.refl _).alloc _⟩
set_option maxHeartbeats 1600000 in
theorem goodn_any (n:Int) (w:World) :
 Calls Tryz.prog 33 #[.int .i64 n] w fun e w' => e = .returned (.bool (decide (0≤n∧n < 7)))∧w = w':=by
 by_cases h:0≤n∧n < 7
 ·rw [decide_eq_true h];obtain ⟨h1,h2⟩:=h;go_enter Tryz.func33,Tryz.ntmps33;go_wp2;go_ret;exact ⟨retb (by first | rfl | (simp;omega)),rfl⟩
 ·rw [decide_eq_false h];go_enter Tryz.func33,Tryz.ntmps33;go_wp2;all_goals (go_ret;first | exact ⟨rfl,rfl⟩ | exact ⟨retb (by simp;omega),rfl⟩)
structure VotM where
 s:VotS
 a:Option Addr
 c:Nat
 L:List EntM
 nu:Nat
abbrev voC (s:VotS) (a:Option Addr) (n c nu lb:Nat):Array Value:=#[.int .i64 s.pr,.int .i64 s.pn,.int .i64 s.ar,.int .i64 s.an,.slice a n c,.int .i64 s.cl,.int .i64 nu,.pointer (some ⟨lb,0,none⟩)]
structure VotAt (W w:World) (vb lb:Nat) (own:List Nat) (V:VotM):Prop where
 b:Blk w vb (voC V.s V.a V.s.l.length V.c V.nu lb) 100
 e:Ents V.L = V.s.l
 m:LedM (fun x => W.heap.size≤x∧x ∉ vb :: own) w V.a V.L
 n:V.a = none→V.c = 0
 c:V.s.l.length≤V.c
 ok:V.s.ok
 lo:W.heap.size≤vb
 ap:vb ∉ own
theorem VotAt.step {W w w':World} {vb lb:Nat} {own own':List Nat} {V:VotM} (h:VotAt W w vb lb own V) (g:GrX own w w') (ho:∀ b ∈ own',b ∈ own ∨ w.heap.size≤b):VotAt W w' vb lb own' V:=by
 have hl:=h.b.lt;have hn:∀ b,b < w.heap.size→b ∉ own→b ∉ own':=fun b hb hn hm => by
  rcases ho b hm with h1 | h1
  ·exact hn h1
  ·omega
 have h1:LedM (fun x => (W.heap.size≤x∧x ∉ vb :: own')∧x ∉ own) w V.a V.L:=h.m.mono (fun b hb hk => by
  have h2:b ≠ vb:=fun e => hk.2 (by rw [e];exact List.mem_cons_self)
  have h3:b ∉ own:=fun e => hk.2 (List.mem_cons_of_mem _ e)
  refine ⟨⟨hk.1,fun hm => ?_⟩,h3⟩;rcases List.mem_cons.1 hm with e | hm
  ·exact h2 e
  ·exact hn b hb h3 hm)
 exact ⟨h.b.grx g h.ap,h.e,(h1.grx g (fun y hy hk => hk.2 hy)).mono (fun b _ hk => hk.1),h.n,h.c,h.ok,h.lo,hn vb hl h.ap⟩
theorem VotAt.gr {W w w':World} {vb lb:Nat} {own:List Nat} {V:VotM} (h:VotAt W w vb lb own V) (g:Gr w w'):VotAt W w' vb lb own V:=⟨h.b.gr g,h.e,h.m.gr g,h.n,h.c,h.ok,h.lo,h.ap⟩
set_option maxHeartbeats 1600000 in
theorem promised_any {W:World} (w:World) {vb lb:Nat} {own:List Nat} {V:VotM} (h:VotAt W w vb lb own V) :
 Calls Tryz.prog 15 #[.pointer (some ⟨vb,0,none⟩)] w fun e w' => e = .returned (.agg #[.int .i64 V.s.pr,.int .i64 V.s.pn])∧Gr w w':=by
 have d0:=h.b.cell (i:=0) (v:=.int .i64 V.s.pr) rfl;have d1:=h.b.cell (i:=1) (v:=.int .i64 V.s.pn) rfl;have z:=h.b.lt;replace h:=Lib.hid h;go_enter Tryz.func15,Tryz.ntmps15;go_wp2_with fail;refine bodyPost_ret (v:=.agg #[.int .i64 V.s.pr,.int .i64 V.s.pn]) ?_ rfl ⟨rfl,(Gr.refl w).alloc _⟩;exact (res_c (b:=w.heap.size) (t:=23) Tryz.results15 _ _ (Blk.new w _ _) rfl Tryz.underlying23 (by kernel_rfl)).trans rfl
set_option maxHeartbeats 1600000 in
theorem may_any {G:List Nat} {E:Nat→Addr} {W:World} (w:World) (hE:EAt G E w) (i5:1 ∈ G) (i8:6 ∈ G) {vb lb:Nat} {own:List Nat} {V:VotM} (h:VotAt W w vb lb own V) (b:Bal) :
 Calls Tryz.prog 36 #[.pointer (some ⟨vb,0,none⟩),.agg #[.int .i64 b.r,.int .i64 b.n]] w fun e w' => e = .returned (if balB b = true then (if aboveB ⟨V.s.pr,V.s.pn⟩ b = true then (Value.iface 297 (.pointer (some (E 6)))) else .nilIface) else numE E)∧Gr w w':=by
 have d0:=h.b.cell (i:=0) (v:=.int .i64 V.s.pr) rfl;have d1:=h.b.cell (i:=1) (v:=.int .i64 V.s.pn) rfl;have z:=h.b.lt;have e5:=hE.c0 i5;have e8:=hE.c0 i8;have hlg:=fun w' => vlegal_any b w'
 have hab:=fun w' => above_any ⟨V.s.pr,V.s.pn⟩ b w'
 replace h:=Lib.hid h;replace hE:=Lib.hid hE;obtain ⟨v1,hv1⟩:∃ v,v = balB b:=⟨_,rfl⟩
 obtain ⟨v2,hv2⟩:∃ v,v = aboveB ⟨V.s.pr,V.s.pn⟩ b:=⟨_,rfl⟩
 rw [← hv1] at hlg ⊢;rw [← hv2] at hab ⊢;replace hlg:=Lib.hid hlg;replace hab:=Lib.hid hab;replace hv1:=Lib.hid hv1;replace hv2:=Lib.hid hv2;go_enter Tryz.func36,Tryz.ntmps36;go_wp2_with fail;refine (hlg.out _).mono ?_;rintro q w1 ⟨rfl,g1⟩;have gw1:Gr w w1:=((Gr.refl w).alloc _).trans g1;have hb1:=(Blk.new w #[.int .i64 b.r,.int .i64 b.n] 23).gr g1;have hv1':=h.out.b.gr gw1;have d0':=hv1'.cell (i:=0) (v:=.int .i64 V.s.pr) rfl;have d1':=hv1'.cell (i:=1) (v:=.int .i64 V.s.pn) rfl;have x0:=hb1.cell (i:=0) (v:=.int .i64 b.r) rfl;have x1:=hb1.cell (i:=1) (v:=.int .i64 b.n) rfl;have e5':=(hE.out.gr gw1).c0 i5;have z1:=hv1'.lt;have z2:=hb1.lt;replace hv1':=Lib.hid hv1';replace hb1:=Lib.hid hb1;cases v1 with
 | false =>
  go_wp2_with fail;go_ret;exact ⟨rfl,gw1⟩
 | true =>
  have p0:=GrW.cell d0';have p1:=GrW.cell d1';have p2:=GrW.cell x0;have p3:=GrW.cell x1;go_upto_region 3 with fail
  refine wp_region_grows (by kernel_rfl) (by kernel_rfl) ?_;repeat (any_goals (first | go_big_quiet_step (first | (exact Calls.grows (hab.out _))) | quiet_step (first | (exact Calls.grows (hab.out _)))))
  refine wpQuiet_nil ?_;intro wz hwq;have gz:=GrW.of hwq;clear hwq;obtain ⟨cz,fz,sz⟩:=gz.cells;try simp only [size_drewN] at cz fz sz
  try simp only [World.size_alloc] at cz fz sz
  try simp only [World.size_drew] at cz fz sz
  try simp only [World.size_setCell] at cz fz sz
  have gw2:Gr w wz:=gw1.trans gz;have e8':=(hE.out.gr gw2).c0 i8;cases v2 with
  | false =>
   go_wp2_with fail;go_ret;exact ⟨rfl,gw2⟩
  | true =>
   go_wp2_with fail;go_ret;exact ⟨rfl,gw2⟩
deriving instance DecidableEq for Tsk,Srv,Ent
theorem tsk_neq (a b c d a' b' c' d':Int) (w:World):(binOp .neq 136 (.agg #[.int .i64 a,.int .i64 b,.int .i64 c,.int .i64 d]) (.agg #[.int .i64 a',.int .i64 b',.int .i64 c',.int .i64 d'])).run Tryz.prog w = .ok (.bool (!decide ((⟨a,b,c,d⟩:Tsk) = ⟨a',b',c',d'⟩))) w:=by
 have h:decide ((⟨a,b,c,d⟩:Tsk) = ⟨a',b',c',d'⟩) = decide (a = a'∧b = b'∧c = c'∧d = d'):=decide_eq_decide.2 ⟨fun h => by injection h with h1 h2 h3 h4;exact ⟨h1,h2,h3,h4⟩,fun ⟨h1,h2,h3,h4⟩ => by rw [h1,h2,h3,h4]⟩;rw [h];by_cases h1:a = a' <;> by_cases h2:b = b' <;> by_cases h3:c = c' <;> by_cases h4:d = d' <;> simp [go_sem,h1,h2,h3,h4]
theorem key_eql2 (a b c d:Int) (w:World):(binOp .eql 203 (.agg #[.int .i64 a,.int .i64 b]) (.agg #[.int .i64 c,.int .i64 d])).run Tryz.prog w = .ok (.bool (decide (a = c∧b = d))) w:=by
 by_cases h1:a = c <;> by_cases h2:b = d <;> simp [go_sem,h1,h2]
set_option maxRecDepth 100000 in
set_option maxHeartbeats 3200000 in
theorem equalT_any (w:World) (a a':Option Addr) (c c':Nat) (l l':List Tsk) (h:RecsAt 4 Tsk.cells w a l) (h':RecsAt 4 Tsk.cells w a' l') (hb:l.length≤100000000000000) :
 Calls Tryz.prog 126 #[.slice a l.length c,.slice a' l'.length c'] w fun e w' => e = .returned (.bool (decide (l = l')))∧Gr w w':=by
 obtain ⟨v,hv⟩:∃ v,v = decide (l = l'):=⟨_,rfl⟩
 rw [← hv];obtain ⟨n,hn⟩:∃ n,n = l.length:=⟨_,rfl⟩
 obtain ⟨n',hn'⟩:∃ n',n' = l'.length:=⟨_,rfl⟩
 rw [← hn,← hn'];rw [← hn] at hb;replace h:=Lib.hid h;replace h':=Lib.hid h';replace hv:=Lib.hid hv;replace hn:=Lib.hid hn;replace hn':=Lib.hid hn';by_cases he:n = n'
 ·subst he;go_enter Tryz.func126,Tryz.ntmps126;go_wp2_with fail;go_loopw [13] (fun iv wr => ∃ k:Nat,k≤n∧iv = .int .i64 k∧Hid (l.take k = l'.take k)∧Gr w wr) (fun iv _ => n - (intOf iv).toNat);case atStart => exact ⟨0,Nat.zero_le _,rfl,Lib.hid (by simp),Gr.refl _⟩
  case round =>
   obtain ⟨k,hk,rfl,hI,hg⟩:=hrel;by_cases hlt:k < n
   ·have hkd:decide ((k:Int) < n) = true:=decide_eq_true (by omega);have hlt2:(k:Int) < n:=by omega
    obtain ⟨t,ht⟩:=get_some l k (by rw [← hn.out];exact hlt);obtain ⟨t',ht'⟩:=get_some l' k (by rw [← hn'.out];exact hlt);obtain ⟨b,off,rfl,hb1,hct⟩:=RecsAt.gr' h.out hg k t ht;obtain ⟨b',off',rfl,hb2,hct'⟩:=RecsAt.gr' h'.out hg k t' ht';have e0':=hct 0 (.int .i64 t.c) rfl;have e1':=hct 1 (.int .i64 t.p) rfl;have e2':=hct 2 (.int .i64 t.d) rfl;have e3':=hct 3 (.int .i64 t.s) rfl;have f0':=hct' 0 (.int .i64 t'.c) rfl;have f1':=hct' 1 (.int .i64 t'.p) rfl;have f2':=hct' 2 (.int .i64 t'.d) rfl;have f3':=hct' 3 (.int .i64 t'.s) rfl;rw [Nat.add_zero] at e0' f0';have e0:=GrW.cell e0';have e1:=GrW.cell e1';have e2:=GrW.cell e2';have e3:=GrW.cell e3';have f0:=GrW.cell f0';have f1:=GrW.cell f1';have f2:=GrW.cell f2';have f3:=GrW.cell f3';have hq:=fun w => tsk_neq t.c t.p t.d t.s t'.c t'.p t'.d t'.s w
    replace ht:=Lib.hid ht;replace ht':=Lib.hid ht';clear hct hct';by_cases htt:t = t'
    ·rw [show decide ((⟨t.c,t.p,t.d,t.s⟩:Tsk) = ⟨t'.c,t'.p,t'.d,t'.s⟩) = true from decide_eq_true htt] at hq;replace htt:=Lib.hid htt;go_upto_region 6 with fail
     refine wp_region_grows (by kernel_rfl) (by kernel_rfl) ?_;repeat (any_goals (first | go_big_quiet_step (first | fail) | quiet_step (first | fail)))
     refine wpQuiet_nil ?_;intro wz hwq;have gz:=GrW.of hwq;clear hwq;obtain ⟨cz,fz,sz⟩:=gz.cells;try simp only [size_drewN] at cz fz sz
     try simp only [World.size_alloc] at cz fz sz
     try simp only [World.size_drew] at cz fz sz
     try simp only [World.size_setCell] at cz fz sz
     go_wp2_with fail;go_roundw;case rel => exact ⟨k + 1,by omega,by go_num,Lib.hid (by rw [take_snoc ht.out,take_snoc ht'.out,hI.out,htt.out]),hg.trans gz⟩
     case measure => simp [intOf];omega
    ·rw [show decide ((⟨t.c,t.p,t.d,t.s⟩:Tsk) = ⟨t'.c,t'.p,t'.d,t'.s⟩) = false from decide_eq_false htt] at hq;have hvf:v = false:=by
      rw [hv.out];refine decide_eq_false (fun e => htt ?_);have h1:=ht.out;rw [e,ht'.out] at h1;exact (Option.some.inj h1).symm
     subst hvf;replace htt:=Lib.hid htt;go_upto_region 6 with fail
     refine wp_region_grows (by kernel_rfl) (by kernel_rfl) ?_;repeat (any_goals (first | go_big_quiet_step (first | fail) | quiet_step (first | fail)))
     refine wpQuiet_nil ?_;intro wz hwq;have gz:=GrW.of hwq;clear hwq;obtain ⟨cz,fz,sz⟩:=gz.cells;try simp only [size_drewN] at cz fz sz
     try simp only [World.size_alloc] at cz fz sz
     try simp only [World.size_drew] at cz fz sz
     try simp only [World.size_setCell] at cz fz sz
     go_wp2_with fail;go_ret;exact ⟨rfl,hg.trans gz⟩
   ·obtain rfl:k = n:=by omega
    have hkd:decide ((k:Int) < k) = false:=decide_eq_false (by omega);have hvt:v = true:=by
     rw [hv.out];refine decide_eq_true ?_;have h1:=hI.out
     rwa [List.take_of_length_le (by rw [← hn.out];exact Nat.le_refl _),List.take_of_length_le (by rw [← hn'.out];exact Nat.le_refl _)] at h1
    subst hvt;go_wp2_with fail;go_ret;exact ⟨rfl,hg⟩
 ·have h1:((n:Int) == n') = false:=beq_eq_false_iff_ne.2 (by omega);have hvf:v = false:=by
   rw [hv.out];exact decide_eq_false (fun e => he (by rw [hn.out,hn'.out,e]))
  subst hvf;go_enter Tryz.func126,Tryz.ntmps126;go_wp2_with fail;go_ret;exact ⟨rfl,Gr.refl _⟩
def sameE (x y:Ent):Bool:=decide (x.cl = y.cl∧x.nu = y.nu) && decide (x.kd = y.kd) && decide (x.id = y.id) && decide (x.srv.k = y.srv.k∧x.srv.q = y.srv.q∧x.srv.t = y.srv.t) && decide (x.po = y.po) && decide (x.at_ = y.at_) && decide (x.tasks = y.tasks)
theorem same_iff (x y:Ent):sameE x y = true ↔ (x.cl = y.cl∧x.nu = y.nu)∧x.kd = y.kd∧x.id = y.id∧(x.srv.k = y.srv.k∧x.srv.q = y.srv.q∧x.srv.t = y.srv.t)∧x.po = y.po∧x.at_ = y.at_∧x.tasks = y.tasks:=by
 unfold sameE;simp only [Bool.and_eq_true,decide_eq_true_iff,and_assoc]
theorem sameE_eq {x y:Ent} (h:sameE x y = true):x = y:=by
 obtain ⟨⟨h1,h2⟩,h3,h4,⟨h5,h6,h7⟩,h8,h9,h10⟩:=(same_iff x y).1 h;obtain ⟨a,b,c,d,⟨e,f,g⟩,i,j,k⟩:=x;obtain ⟨a',b',c',d',⟨e',f',g'⟩,i',j',k'⟩:=y;dsimp only at *;subst h1 h2 h3 h4 h5 h6 h7 h8 h9 h10;rfl
theorem same_no {x y:Ent} {v:Bool} (hz:Hid (v = sameE x y)) (h:¬ ((x.cl = y.cl∧x.nu = y.nu)∧x.kd = y.kd∧x.id = y.id∧(x.srv.k = y.srv.k∧x.srv.q = y.srv.q∧x.srv.t = y.srv.t)∧x.po = y.po∧x.at_ = y.at_∧x.tasks = y.tasks)):false = v:=by
 rw [hz.out];cases hv:sameE x y with
 | false => rfl
 | true => exact absurd ((same_iff x y).1 hv) h
set_option maxRecDepth 100000 in
set_option maxHeartbeats 12800000 in
theorem same_any (x y:EntM) (w:World) (hx:RecsAt 4 Tsk.cells w x.a x.e.tasks) (hy:RecsAt 4 Tsk.cells w y.a y.e.tasks) (hb:x.e.tasks.length≤100000000000000) :
 Calls Tryz.prog 87 #[.agg #[.int .i64 x.e.cl,.int .i64 x.e.nu,.int .i64 x.e.kd,.int .i64 x.e.id,.int .i64 x.e.srv.k,.int .i64 x.e.srv.q,.int .i64 x.e.srv.t,.int .i64 x.e.po,.slice x.a x.e.tasks.length x.c,.int .i64 x.e.at_],.agg #[.int .i64 y.e.cl,.int .i64 y.e.nu,.int .i64 y.e.kd,.int .i64 y.e.id,.int .i64 y.e.srv.k,.int .i64 y.e.srv.q,.int .i64 y.e.srv.t,.int .i64 y.e.po,.slice y.a y.e.tasks.length y.c,.int .i64 y.e.at_]] w fun e w' => e = .returned (.bool (sameE x.e y.e))∧Gr w w':=by
 obtain ⟨v,hz⟩:∃ v,v = sameE x.e y.e:=⟨_,rfl⟩
 rw [← hz];replace hz:=Lib.hid hz;replace hx:=Lib.hid hx;replace hy:=Lib.hid hy;go_enter Tryz.func87,Tryz.ntmps87;go_upto_region 1 with fail
 go_cut [5,6] (fun s5 s6 wx => ∃ b5 b6,s5 = .pointer (some ⟨b5,0,none⟩)∧s6 = .pointer (some ⟨b6,0,none⟩)∧Blk wx b5 #[.int .i64 x.e.kd,.int .i64 x.e.id,.int .i64 x.e.srv.k,.int .i64 x.e.srv.q,.int .i64 x.e.srv.t,.int .i64 x.e.po,.slice x.a x.e.tasks.length x.c,.int .i64 x.e.at_] 71∧Blk wx b6 #[.int .i64 y.e.kd,.int .i64 y.e.id,.int .i64 y.e.srv.k,.int .i64 y.e.srv.q,.int .i64 y.e.srv.t,.int .i64 y.e.po,.slice y.a y.e.tasks.length y.c,.int .i64 y.e.at_] 71∧Gr ((w.alloc (.cells #[.int .i64 x.e.cl,.int .i64 x.e.nu,.int .i64 x.e.kd,.int .i64 x.e.id,.int .i64 x.e.srv.k,.int .i64 x.e.srv.q,.int .i64 x.e.srv.t,.int .i64 x.e.po,.slice x.a x.e.tasks.length x.c,.int .i64 x.e.at_] 73)).alloc (.cells #[.int .i64 y.e.cl,.int .i64 y.e.nu,.int .i64 y.e.kd,.int .i64 y.e.id,.int .i64 y.e.srv.k,.int .i64 y.e.srv.q,.int .i64 y.e.srv.t,.int .i64 y.e.po,.slice y.a y.e.tasks.length y.c,.int .i64 y.e.at_] 73)) wx);case first =>
  go_region;all_goals go_wp2_with fail
  all_goals go_meet
  all_goals refine ⟨_,_,rfl,rfl,?_,?_,?_⟩
  all_goals first | exact (Blk.new1 (by simp)).drew | exact ((Blk.new1 (by simp)).alloc _).drew | exact (by repeat (first | exact Gr.refl _ | apply Gr.alloc | apply Gr.drew | apply Gr.drewN | (refine Gr.setCell ?_ (by first | (simp;done) | (simp;omega)) _) | (refine Gr.trans ?_ (by assumption))))
 case rest =>
  obtain ⟨b5,b6,rfl,rfl,hb5,hb6,g0⟩:=hcut;have g:Gr w wc:=(((Gr.refl w).alloc _).alloc _).trans g0;have hb2:=((Blk.new w #[.int .i64 x.e.cl,.int .i64 x.e.nu,.int .i64 x.e.kd,.int .i64 x.e.id,.int .i64 x.e.srv.k,.int .i64 x.e.srv.q,.int .i64 x.e.srv.t,.int .i64 x.e.po,.slice x.a x.e.tasks.length x.c,.int .i64 x.e.at_] 73).alloc (.cells #[.int .i64 y.e.cl,.int .i64 y.e.nu,.int .i64 y.e.kd,.int .i64 y.e.id,.int .i64 y.e.srv.k,.int .i64 y.e.srv.q,.int .i64 y.e.srv.t,.int .i64 y.e.po,.slice y.a y.e.tasks.length y.c,.int .i64 y.e.at_] 73)).gr g0;have hb3:=(Blk.new1 (w:=w.alloc (.cells #[.int .i64 x.e.cl,.int .i64 x.e.nu,.int .i64 x.e.kd,.int .i64 x.e.id,.int .i64 x.e.srv.k,.int .i64 x.e.srv.q,.int .i64 x.e.srv.t,.int .i64 x.e.po,.slice x.a x.e.tasks.length x.c,.int .i64 x.e.at_] 73)) (n:=w.heap.size + 1) (cs:=#[.int .i64 y.e.cl,.int .i64 y.e.nu,.int .i64 y.e.kd,.int .i64 y.e.id,.int .i64 y.e.srv.k,.int .i64 y.e.srv.q,.int .i64 y.e.srv.t,.int .i64 y.e.po,.slice y.a y.e.tasks.length y.c,.int .i64 y.e.at_]) (t:=73) (by simp)).gr g0;have z5:=hb5.lt;have z6:=hb6.lt;have z2:=hb2.lt;have z3:=hb3.lt;have p0:=GrW.cell (hb5.cell (i:=0) (v:=.int .i64 x.e.kd) rfl);have p1:=GrW.cell (hb5.cell (i:=1) (v:=.int .i64 x.e.id) rfl);have p2:=GrW.cell (hb5.cell (i:=2) (v:=.int .i64 x.e.srv.k) rfl);have p3:=GrW.cell (hb5.cell (i:=3) (v:=.int .i64 x.e.srv.q) rfl);have p4:=GrW.cell (hb5.cell (i:=4) (v:=.int .i64 x.e.srv.t) rfl);have p5:=GrW.cell (hb5.cell (i:=5) (v:=.int .i64 x.e.po) rfl);have p6:=GrW.cell (hb5.cell (i:=6) (v:=.slice x.a x.e.tasks.length x.c) rfl);have p7:=GrW.cell (hb5.cell (i:=7) (v:=.int .i64 x.e.at_) rfl);have q0:=GrW.cell (hb6.cell (i:=0) (v:=.int .i64 y.e.kd) rfl);have q1:=GrW.cell (hb6.cell (i:=1) (v:=.int .i64 y.e.id) rfl);have q2:=GrW.cell (hb6.cell (i:=2) (v:=.int .i64 y.e.srv.k) rfl);have q3:=GrW.cell (hb6.cell (i:=3) (v:=.int .i64 y.e.srv.q) rfl);have q4:=GrW.cell (hb6.cell (i:=4) (v:=.int .i64 y.e.srv.t) rfl);have q5:=GrW.cell (hb6.cell (i:=5) (v:=.int .i64 y.e.po) rfl);have q6:=GrW.cell (hb6.cell (i:=6) (v:=.slice y.a y.e.tasks.length y.c) rfl);have q7:=GrW.cell (hb6.cell (i:=7) (v:=.int .i64 y.e.at_) rfl);have r0:=GrW.cell (hb2.cell (i:=0) (v:=.int .i64 x.e.cl) rfl);have r1:=GrW.cell (hb2.cell (i:=1) (v:=.int .i64 x.e.nu) rfl);have r2:=GrW.cell (hb2.cell (i:=2) (v:=.int .i64 x.e.kd) rfl);have r3:=GrW.cell (hb2.cell (i:=3) (v:=.int .i64 x.e.id) rfl);have r4:=GrW.cell (hb2.cell (i:=4) (v:=.int .i64 x.e.srv.k) rfl);have r5:=GrW.cell (hb2.cell (i:=5) (v:=.int .i64 x.e.srv.q) rfl);have r6:=GrW.cell (hb2.cell (i:=6) (v:=.int .i64 x.e.srv.t) rfl);have r7:=GrW.cell (hb2.cell (i:=7) (v:=.int .i64 x.e.po) rfl);have r8:=GrW.cell (hb2.cell (i:=8) (v:=.slice x.a x.e.tasks.length x.c) rfl);have r9:=GrW.cell (hb2.cell (i:=9) (v:=.int .i64 x.e.at_) rfl);have s0:=GrW.cell (hb3.cell (i:=0) (v:=.int .i64 y.e.cl) rfl);have s1:=GrW.cell (hb3.cell (i:=1) (v:=.int .i64 y.e.nu) rfl);have s2:=GrW.cell (hb3.cell (i:=2) (v:=.int .i64 y.e.kd) rfl);have s3:=GrW.cell (hb3.cell (i:=3) (v:=.int .i64 y.e.id) rfl);have s4:=GrW.cell (hb3.cell (i:=4) (v:=.int .i64 y.e.srv.k) rfl);have s5:=GrW.cell (hb3.cell (i:=5) (v:=.int .i64 y.e.srv.q) rfl);have s6:=GrW.cell (hb3.cell (i:=6) (v:=.int .i64 y.e.srv.t) rfl);have s7:=GrW.cell (hb3.cell (i:=7) (v:=.int .i64 y.e.po) rfl);have s8:=GrW.cell (hb3.cell (i:=8) (v:=.slice y.a y.e.tasks.length y.c) rfl);have s9:=GrW.cell (hb3.cell (i:=9) (v:=.int .i64 y.e.at_) rfl);have hky:=fun w => key_eql2 x.e.cl x.e.nu y.e.cl y.e.nu w
  have hsv:=fun w => srv_eql x.e.srv y.e.srv w
  have heq:∀ w',Gr wc w'→Calls Tryz.prog 126 #[.slice x.a x.e.tasks.length x.c,.slice y.a y.e.tasks.length y.c] w' fun e w'' => e = .returned (.bool (decide (x.e.tasks = y.e.tasks)))∧Gr w' w'':=fun w' g' => equalT_any w' _ _ _ _ _ _ (RecsAt.gr' hx.out (g.trans g')) (RecsAt.gr' hy.out (g.trans g')) hb
  replace g:=Lib.hid g;clear hb2 hb3 hb5 hb6 g0;by_cases hk:x.e.cl = y.e.cl∧x.e.nu = y.e.nu
  ·rw [decide_eq_true hk] at hky;replace hk:=Lib.hid hk;by_cases hkd:x.e.kd = y.e.kd
   ·have tkd:(x.e.kd == y.e.kd) = true:=by simpa using hkd
    replace hkd:=Lib.hid hkd;by_cases hid:x.e.id = y.e.id
    ·have tid:(x.e.id == y.e.id) = true:=by simpa using hid
     replace hid:=Lib.hid hid;by_cases hsr:x.e.srv.k = y.e.srv.k∧x.e.srv.q = y.e.srv.q∧x.e.srv.t = y.e.srv.t
     ·rw [decide_eq_true hsr] at hsv;replace hsr:=Lib.hid hsr;by_cases hpo:x.e.po = y.e.po
      ·have tpo:(x.e.po == y.e.po) = true:=by simpa using hpo
       replace hpo:=Lib.hid hpo;by_cases hat:x.e.at_ = y.e.at_
       ·have tat:(x.e.at_ == y.e.at_) = true:=by simpa using hat
        replace hat:=Lib.hid hat;by_cases hta:x.e.tasks = y.e.tasks
        ·simp only [decide_eq_true hta] at heq;replace hta:=Lib.hid hta;replace heq:=Lib.hid heq;go_upto_region 2 with fail
         refine wp_region_grows (by kernel_rfl) (by kernel_rfl) ?_;repeat (any_goals (first | go_big_quiet_step (first | (exact Calls.grows (keyOf_any x _)) | (exact Calls.grows (keyOf_any y _)) | (exact Calls.grows (heq.out _ (GrW.gr _)))) | quiet_step (first | (exact Calls.grows (keyOf_any x _)) | (exact Calls.grows (keyOf_any y _)) | (exact Calls.grows (heq.out _ (GrW.gr _))))))
         refine wpQuiet_nil ?_;intro wz hwq;have gz:=GrW.of hwq;clear hwq;obtain ⟨cz,fz,sz⟩:=gz.cells;try simp only [size_drewN] at cz fz sz
         try simp only [World.size_alloc] at cz fz sz
         try simp only [World.size_drew] at cz fz sz
         try simp only [World.size_setCell] at cz fz sz
         go_wp2_with fail;go_ret;exact ⟨retb ((hz.out.trans ((same_iff _ _).2 ⟨hk.out,hkd.out,hid.out,hsr.out,hpo.out,hat.out,hta.out⟩)).symm),g.out.trans gz⟩
        ·simp only [decide_eq_false hta] at heq;replace hta:=Lib.hid hta;replace heq:=Lib.hid heq;go_upto_region 2 with fail
         refine wp_region_grows (by kernel_rfl) (by kernel_rfl) ?_;repeat (any_goals (first | go_big_quiet_step (first | (exact Calls.grows (keyOf_any x _)) | (exact Calls.grows (keyOf_any y _)) | (exact Calls.grows (heq.out _ (GrW.gr _)))) | quiet_step (first | (exact Calls.grows (keyOf_any x _)) | (exact Calls.grows (keyOf_any y _)) | (exact Calls.grows (heq.out _ (GrW.gr _))))))
         refine wpQuiet_nil ?_;intro wz hwq;have gz:=GrW.of hwq;clear hwq;obtain ⟨cz,fz,sz⟩:=gz.cells;try simp only [size_drewN] at cz fz sz
         try simp only [World.size_alloc] at cz fz sz
         try simp only [World.size_drew] at cz fz sz
         try simp only [World.size_setCell] at cz fz sz
         go_wp2_with fail;go_ret;exact ⟨retb (same_no hz (fun h => hta.out h.2.2.2.2.2.2)),g.out.trans gz⟩
       ·have tat:(x.e.at_ == y.e.at_) = false:=by simpa using hat
        replace hat:=Lib.hid hat;replace heq:=Lib.hid heq;go_upto_region 2 with fail
        refine wp_region_grows (by kernel_rfl) (by kernel_rfl) ?_;repeat (any_goals (first | go_big_quiet_step (first | (exact Calls.grows (keyOf_any x _)) | (exact Calls.grows (keyOf_any y _)) | (exact Calls.grows (heq.out _ (GrW.gr _)))) | quiet_step (first | (exact Calls.grows (keyOf_any x _)) | (exact Calls.grows (keyOf_any y _)) | (exact Calls.grows (heq.out _ (GrW.gr _))))))
        refine wpQuiet_nil ?_;intro wz hwq;have gz:=GrW.of hwq;clear hwq;obtain ⟨cz,fz,sz⟩:=gz.cells;try simp only [size_drewN] at cz fz sz
        try simp only [World.size_alloc] at cz fz sz
        try simp only [World.size_drew] at cz fz sz
        try simp only [World.size_setCell] at cz fz sz
        go_wp2_with fail;go_ret;exact ⟨retb (same_no hz (fun h => hat.out h.2.2.2.2.2.1)),g.out.trans gz⟩
      ·have tpo:(x.e.po == y.e.po) = false:=by simpa using hpo
       replace hpo:=Lib.hid hpo;replace heq:=Lib.hid heq;go_upto_region 2 with fail
       refine wp_region_grows (by kernel_rfl) (by kernel_rfl) ?_;repeat (any_goals (first | go_big_quiet_step (first | (exact Calls.grows (keyOf_any x _)) | (exact Calls.grows (keyOf_any y _)) | (exact Calls.grows (heq.out _ (GrW.gr _)))) | quiet_step (first | (exact Calls.grows (keyOf_any x _)) | (exact Calls.grows (keyOf_any y _)) | (exact Calls.grows (heq.out _ (GrW.gr _))))))
       refine wpQuiet_nil ?_;intro wz hwq;have gz:=GrW.of hwq;clear hwq;obtain ⟨cz,fz,sz⟩:=gz.cells;try simp only [size_drewN] at cz fz sz
       try simp only [World.size_alloc] at cz fz sz
       try simp only [World.size_drew] at cz fz sz
       try simp only [World.size_setCell] at cz fz sz
       go_wp2_with fail;go_ret;exact ⟨retb (same_no hz (fun h => hpo.out h.2.2.2.2.1)),g.out.trans gz⟩
     ·rw [decide_eq_false hsr] at hsv;replace hsr:=Lib.hid hsr;replace heq:=Lib.hid heq;go_upto_region 2 with fail
      refine wp_region_grows (by kernel_rfl) (by kernel_rfl) ?_;repeat (any_goals (first | go_big_quiet_step (first | (exact Calls.grows (keyOf_any x _)) | (exact Calls.grows (keyOf_any y _)) | (exact Calls.grows (heq.out _ (GrW.gr _)))) | quiet_step (first | (exact Calls.grows (keyOf_any x _)) | (exact Calls.grows (keyOf_any y _)) | (exact Calls.grows (heq.out _ (GrW.gr _))))))
      refine wpQuiet_nil ?_;intro wz hwq;have gz:=GrW.of hwq;clear hwq;obtain ⟨cz,fz,sz⟩:=gz.cells;try simp only [size_drewN] at cz fz sz
      try simp only [World.size_alloc] at cz fz sz
      try simp only [World.size_drew] at cz fz sz
      try simp only [World.size_setCell] at cz fz sz
      go_wp2_with fail;go_ret;exact ⟨retb (same_no hz (fun h => hsr.out h.2.2.2.1)),g.out.trans gz⟩
    ·have tid:(x.e.id == y.e.id) = false:=by simpa using hid
     replace hid:=Lib.hid hid;replace heq:=Lib.hid heq;go_upto_region 2 with fail
     refine wp_region_grows (by kernel_rfl) (by kernel_rfl) ?_;repeat (any_goals (first | go_big_quiet_step (first | (exact Calls.grows (keyOf_any x _)) | (exact Calls.grows (keyOf_any y _)) | (exact Calls.grows (heq.out _ (GrW.gr _)))) | quiet_step (first | (exact Calls.grows (keyOf_any x _)) | (exact Calls.grows (keyOf_any y _)) | (exact Calls.grows (heq.out _ (GrW.gr _))))))
     refine wpQuiet_nil ?_;intro wz hwq;have gz:=GrW.of hwq;clear hwq;obtain ⟨cz,fz,sz⟩:=gz.cells;try simp only [size_drewN] at cz fz sz
     try simp only [World.size_alloc] at cz fz sz
     try simp only [World.size_drew] at cz fz sz
     try simp only [World.size_setCell] at cz fz sz
     go_wp2_with fail;go_ret;exact ⟨retb (same_no hz (fun h => hid.out h.2.2.1)),g.out.trans gz⟩
   ·have tkd:(x.e.kd == y.e.kd) = false:=by simpa using hkd
    replace hkd:=Lib.hid hkd;replace heq:=Lib.hid heq;go_upto_region 2 with fail
    refine wp_region_grows (by kernel_rfl) (by kernel_rfl) ?_;repeat (any_goals (first | go_big_quiet_step (first | (exact Calls.grows (keyOf_any x _)) | (exact Calls.grows (keyOf_any y _)) | (exact Calls.grows (heq.out _ (GrW.gr _)))) | quiet_step (first | (exact Calls.grows (keyOf_any x _)) | (exact Calls.grows (keyOf_any y _)) | (exact Calls.grows (heq.out _ (GrW.gr _))))))
    refine wpQuiet_nil ?_;intro wz hwq;have gz:=GrW.of hwq;clear hwq;obtain ⟨cz,fz,sz⟩:=gz.cells;try simp only [size_drewN] at cz fz sz
    try simp only [World.size_alloc] at cz fz sz
    try simp only [World.size_drew] at cz fz sz
    try simp only [World.size_setCell] at cz fz sz
    go_wp2_with fail;go_ret;exact ⟨retb (same_no hz (fun h => hkd.out h.2.1)),g.out.trans gz⟩
  ·rw [decide_eq_false hk] at hky;replace hk:=Lib.hid hk;replace heq:=Lib.hid heq;go_upto_region 2 with fail
   refine wp_region_grows (by kernel_rfl) (by kernel_rfl) ?_;repeat (any_goals (first | go_big_quiet_step (first | (exact Calls.grows (keyOf_any x _)) | (exact Calls.grows (keyOf_any y _)) | (exact Calls.grows (heq.out _ (GrW.gr _)))) | quiet_step (first | (exact Calls.grows (keyOf_any x _)) | (exact Calls.grows (keyOf_any y _)) | (exact Calls.grows (heq.out _ (GrW.gr _))))))
   refine wpQuiet_nil ?_;intro wz hwq;have gz:=GrW.of hwq;clear hwq;obtain ⟨cz,fz,sz⟩:=gz.cells;try simp only [size_drewN] at cz fz sz
   try simp only [World.size_alloc] at cz fz sz
   try simp only [World.size_drew] at cz fz sz
   try simp only [World.size_setCell] at cz fz sz
   go_wp2_with fail;go_ret;exact ⟨retb (same_no hz (fun h => hk.out h.1)),g.out.trans gz⟩
end Go.Proofs.YteigofaccjaobaaGreatDoor
