/- wal.scan. Printed by gen_i20.py. -/
import Derived.Test.YteigofaccjaobaaGreatDoorKL8
namespace Go.Proofs.YteigofaccjaobaaGreatDoor
open Go.RowKit
def secL (d:DskV) (f n:Nat):List (List UInt8):=(List.range n).map fun i => d.now (f + i)
theorem secL_len (d:DskV) (f n:Nat):(secL d f n).length = n:=by unfold secL;simp
theorem secL_get (d:DskV) (f n k:Nat) (h:k < n):(secL d f n)[k]? = some (d.now (f + k)):=by unfold secL;simp [h]
theorem secL_64 {d:DskV} (h:d.ok) (f n:Nat):∀ x ∈ secL d f n,x.length = 64:=fun x hx => by
 unfold secL at hx;obtain ⟨i,-,rfl⟩:=List.mem_map.1 hx;exact now_len h _
theorem follows_any (W w:World) (ab f n u rc:Nat) (ra:Option Addr) (R:List RcM) (hB:Blk w ab (arC f n u ra R.length rc) 158) (hR:RowAt W w ra rc R) (r:Rc) (a:Option Addr) (c:Nat) (hmm:R.length≤1000) :
 Calls Tryz.prog 154 #[.pointer (some ⟨ab,0,none⟩),rcV r a c] w fun e w' => e = .returned (.bool (decide (folF (R.map (·.r)) r)))∧Gr w w':=by
 rcases List.eq_nil_or_concat R with rfl | ⟨R',l,hRl⟩
 ·exact follows_nil w ab f n u rc ra hB r a c
 ·have hRl:R = R' ++ [l]:=by rw [hRl,List.concat_eq_append]
  subst hRl;exact follows_snoc W w ab f n u rc ra R' l hB hR r a c (by rw [List.length_append] at hmm;omega)
theorem scanF_stop {f:Nat} {L:List (List UInt8)} {rs:List Rc} (h:standF (L.drop (usedR rs)) = none):scanF (f + 1) L rs = rs:=by
 unfold scanF;rw [h]
theorem scanF_bad {f:Nat} {L:List (List UInt8)} {rs:List Rc} {r:Rc} (h:standF (L.drop (usedR rs)) = some r) (hf:¬ folF rs r):scanF (f + 1) L rs = rs:=by
 unfold scanF;rw [h];dsimp only;rw [if_neg hf]
theorem scanF_good {L:List (List UInt8)} {rs:List Rc} {r:Rc} (hL:∀ x ∈ L,x.length = 64) (hu:usedR rs≤L.length) (h:standF (L.drop (usedR rs)) = some r) (hf:folF rs r):scanF (L.length + 1) L rs = scanF (L.length + 1) L (rs ++ [r])∧usedR (rs ++ [r])≤L.length:=by
 obtain ⟨hc,-⟩:=standF_cost (fun x hx => hL x (List.mem_of_mem_drop hx)) h;rw [List.length_drop] at hc;have hp:=costR_pos r;have hu2:usedR (rs ++ [r])≤L.length:=by rw [usedR_snoc];omega
 refine ⟨?_,hu2⟩;rw [← scanF_more L.length hL hu2 (by rw [usedR_snoc];omega)]
 conv => lhs;unfold scanF
 rw [h];dsimp only;rw [if_pos hf]
theorem usedR_ge:∀ rs:List Rc,rs.length≤usedR rs
 | [] => Nat.le_refl _
 | r :: rs => by
  have h1:=usedR_ge rs;have h2:=costR_pos r;have h3:usedR (r :: rs) = costR r + usedR rs:=by unfold usedR;simp
  rw [h3,List.length_cons];omega
theorem RowAt.older {W W1 w:World} {ra:Option Addr} {rc:Nat} {R:List RcM} (h:RowAt W1 w ra rc R) (g:W.heap.size≤W1.heap.size):RowAt W w ra rc R:=by
 refine ⟨⟨h.o.1,?_⟩,fun x hx => (h.d x hx).older g⟩;rcases h.o.2 with hn | ⟨b,cap,cur,e1,e2,e3⟩
 ·exact .inl hn
 ·exact .inr ⟨b,cap,cur,e1,Nat.le_trans g e2,e3⟩
theorem RowAt.lo {W w:World} {ra:Option Addr} {rc:Nat} {R:List RcM} (h:RowAt W w ra rc R):∀ x,ra = some x→W.heap.size≤x.block∧x.block < w.heap.size:=fun x hx => by
 subst hx;have h1:=owns_lt h.o _ rfl;obtain ⟨a0,c0,e0,-,-,hB⟩:=recs_of_owns rmC_len h.o;injection e0 with p
 exact ⟨hB x p.symm,h1.1⟩
abbrev arZ:Array Value:=#[.int .i64 0,.int .i64 0,.int .i64 0,.slice none 0 0]
def ScnP (d:DskV) (f n:Nat) (w:World) (e:Ending) (w':World):Prop:=Gr w w'∧∃ R ra rc,R.map (·.r) = areaF (secL d f n)∧e = .returned (.tuple #[.agg (arC f n (usedR (areaF (secL d f n))) ra R.length rc),.nilIface])∧RowAt w w' ra rc R
set_option maxRecDepth 100000 in
set_option maxHeartbeats 12800000 in
theorem scan_yes {G:List Nat} {E:Nat→Addr} (w:World) (hE:EAt G E w) (i4:0 ∈ G) (i5:1 ∈ G) (i1:3 ∈ G) (i2:9 ∈ G) (i3:5 ∈ G) {db:Nat} {M:DskM} (h:DskAt w db M) (hl:M.d.lost = false) (hC:M.d.C.length≤1000000) (f n:Nat) (hf:f + n≤M.d.n) (h1:1≤n) (hn:n≤1000) :
 Calls Tryz.prog 115 #[.pointer (some ⟨db,0,none⟩),.int .i64 f,.int .i64 n] w (ScnP M.d f n w):=by
 obtain ⟨S,hS⟩:∃ S,S = secL M.d f n:=⟨_,rfl⟩
 have hSl:S.length = n:=by rw [hS];exact secL_len _ _ _
 have hS64:∀ x ∈ S,x.length = 64:=by rw [hS];exact secL_64 h.ok f n
 have hSg:∀ k,k < n→S[k]? = some (M.d.now (f + k)):=fun k hk => by rw [hS];exact secL_get _ _ _ k hk
 have hn1024:=h.ok.n1;have hf1:f≤1024:=by omega
 obtain ⟨wB,hwB⟩:∃ wB,wB = (w.alloc (.cells arZ 158)).alloc (.cells #[.int .i64 f,.int .i64 n,.int .i64 0,.slice none 0 0] 158):=⟨_,rfl⟩
 have gB:Gr w wB:=by rw [hwB];exact ((Gr.refl w).alloc _).alloc _
 have hZ6:Blk wB w.heap.size arZ 158:=by rw [hwB];exact (Blk.new _ _ _).alloc _
 have hA8:Blk wB (w.heap.size + 1) (arC f n 0 none 0 0) 158:=by rw [hwB];exact Blk.new1 (by simp)
 have sB:wB.heap.size = w.heap.size + 2:=by rw [hwB];simp
 have hrd:∀ (w1:World) (k:Nat),Gr wB w1→k < n→Calls Tryz.prog 152 #[.pointer (some ⟨db,0,none⟩),.int .i64 ((f:Int) + k)] w1 fun e w' => ∃ b:Nat,e = .returned (.tuple #[.slice (some ⟨b,0,none⟩) 64 64,.nilIface])∧BytesAt w' (some ⟨b,0,none⟩) (M.d.now (f + k))∧w1.heap.size≤b∧Gr w1 w':=fun w1 k g hk => by
  have:=dread_yes w1 (hE.gr (gB.trans g)) i4 i5 (h.gr (gB.trans g)) (f + k) (by omega) hl hC;rw [Int.natCast_add] at this;exact this
 have hnow64:∀ k,(M.d.now (f + k)).length = 64:=fun k => now_len h.ok _
 replace hrd:=Lib.hid hrd;replace hS:=Lib.hid hS;replace hSl:=Lib.hid hSl;replace hSg:=Lib.hid hSg;replace hS64:=Lib.hid hS64;replace hwB:=Lib.hid hwB;replace h:=Lib.hid h;replace hZ6:=Lib.hid hZ6;replace hA8:=Lib.hid hA8;replace sB:=Lib.hid sB;replace hnow64:=Lib.hid hnow64;replace hl:=Lib.hid hl;go_enter Tryz.func115,Tryz.ntmps115;go_upto_region 2 with fail
 rw [← hwB.out];go_wp2_with fail;go_loopw [9,20] (fun sv iv wr => ∃ (k:Nat) (a':Option Addr) (c':Nat) (L:List (Nat × List UInt8)),k≤n∧iv = .int .i64 k∧sv = .slice a' k c'∧Hid (L.length = k∧wr.ownsRow wB.heap.size 91 1 (.slice a' k c') L.length (L.flatMap secS)∧SecsAt wr a' L∧L.map (·.2) = S.take k∧(∀ z,a' = some z→wB.heap.size≤z.block∧∀ x ∈ L,x.1 ≠ z.block)∧Gr wB wr∧k≤c'∧∀ x ∈ L,wB.heap.size≤x.1)) (fun _ iv _ => n - (intOf iv).toNat);case atStart => exact ⟨0,none,0,[],Nat.zero_le _,rfl,rfl,Lib.hid ⟨rfl,World.ownsRow_nil _ _ _ _,⟨(fun i s hi => by simp at hi),(fun _ h => by cases h)⟩,rfl,(fun z hz => by cases hz),Gr.refl _,Nat.le_refl _,(fun _ h => by cases h)⟩⟩
 case round =>
  obtain ⟨k,a',c',L,hkn,rfl,rfl,hI⟩:=hrel;obtain ⟨hLk,hO,hSA,hLm,hza,gr,hkc,hLo⟩:=hI.out;clear hI;obtain ⟨wo,rfl⟩:∃ wo:World,wo = wr:=⟨wr,rfl⟩
  by_cases hk:k < n
  ·have hrk:=hrd.out wo k gr hk;have hO':wo.ownsRow wB.heap.size 91 1 (.slice a' k c') L.length (L.flatMap secS):=hO;replace hrk:=Lib.hid hrk;replace hLk:=Lib.hid hLk;replace hO:=Lib.hid hO;replace hO':=Lib.hid hO';replace hSA:=Lib.hid hSA;replace hLm:=Lib.hid hLm;replace hza:=Lib.hid hza;replace hLo:=Lib.hid hLo;go_wp2_with fail;refine hrk.out.mono ?_;rintro e w1 ⟨b,rfl,hby,hbs,g1⟩;obtain ⟨w2,hw2⟩:∃ w2,w2 = w1.alloc (.cells #[.slice (some ⟨b,0,none⟩) 64 64] 91):=⟨_,rfl⟩
   have g12:Gr w1 w2:=by rw [hw2];exact (Gr.refl w1).alloc _
   have g02:=g1.trans g12;have hbl1:b < w1.heap.size:=by
    obtain ⟨d,hd,-⟩:=head_of (hnow64.out k);exact (hby.at' hd).1
   have hT:RecsAt 1 secS w2 (some ⟨w1.heap.size,0,none⟩) [(b,M.d.now (f + k))]:=by rw [hw2];exact recs_alloc1 secS_len w1 rfl [(b,M.d.now (f + k))] _ _ rfl
   have hO2:=owns_gr hO.out g02;have hs2:=g02.size;have hs12:=g12.size;have hB2:wB.heap.size≤w2.heap.size:=Nat.le_trans gr.size hs2;have hk1:k + 1≤1000000:=by omega
   have halt:∀ z,a' = some z→z.block < wo.heap.size:=fun z hz => by subst hz;exact (owns_lt hO.out _ rfl).1
   replace hT:=Lib.hid hT;replace hO2:=Lib.hid hO2;replace hby:=Lib.hid hby;replace hw2:=Lib.hid hw2;replace halt:=Lib.hid halt;go_wp2_with (at_builtin;go_loud (rw [← hw2.out];refine wpList_appS (B:=wB.heap.size) rfl _ _ rfl a' c' k L rfl hLk.out hO2.out w1.heap.size (b,M.d.now (f + k)) rfl hT.out hk1 hB2 ?_;intro a9 c9 w9 hO9 hR9 hB9 hg9 hp9 hc9;replace hO9:=Lib.hid hO9;replace hR9:=Lib.hid hR9;replace hB9:=Lib.hid hB9;replace hg9:=Lib.hid hg9;replace hp9:=Lib.hid hp9));go_roundw;case rel =>
    refine ⟨k + 1,a9,c9,L ++ [(b,M.d.now (f + k))],by omega,by go_num,rfl,Lib.hid ⟨by rw [List.length_append,hLk.out];rfl,hO9.out,⟨hR9.out,fun x hx => ?_⟩,?_,fun z hz => ⟨hB9.out z hz,fun x hx => ?_⟩,?_,hc9,fun x hx => ?_⟩⟩
    ·rcases List.mem_append.1 hx with h1 | h1
     ·obtain ⟨hb1,hb2⟩:=hSA.out.b x h1;refine ⟨(hb1.gr g02).grown hg9.out fun z hz _ e => ?_,hb2⟩;cases hz
      cases a' with
      | none => cases e
      | some q => exact (hza.out q rfl).2 x h1 (Option.some.inj e).symm
     ·rw [List.mem_singleton.1 h1];refine ⟨(hby.out.gr g12).grown hg9.out fun z hz _ e => ?_,hnow64.out k⟩;cases hz
      cases a' with
      | none => cases e
      | some q => have h2:=halt.out q rfl;have h3:q.block = b:=Option.some.inj e;omega
    ·rw [List.map_append,hLm.out,take_snoc (hSg.out k hk)];rfl
    ·rcases List.mem_append.1 hx with h1 | h1
     ·have hxl:x.1 < wo.heap.size:=by
       obtain ⟨hb1,hb2⟩:=hSA.out.b x h1;obtain ⟨d,hd,-⟩:=head_of hb2;exact (hb1.at' hd).1
      rcases hp9.out z hz with ⟨q,hq,he⟩ | he
      ·rw [he];exact (hza.out q hq).2 x h1
      ·rw [he];omega
     ·rw [List.mem_singleton.1 h1];rcases hp9.out z hz with ⟨q,hq,he⟩ | he
      ·rw [he];have:=halt.out q hq;show b ≠ q.block;omega
      ·rw [he];show b ≠ w2.heap.size;omega
    ·exact (gr.trans g02).grown hg9.out (fun y hy => by
      cases a' with
      | none => cases hy
      | some q => cases hy;exact (hza.out q rfl).1)
    ·rcases List.mem_append.1 hx with h1 | h1
     ·exact hLo.out x h1
     ·rw [List.mem_singleton.1 h1];show wB.heap.size≤b;have:=gr.size;omega
   case measure => simp [intOf];omega
  ·obtain rfl:k = n:=by omega
   have hkb:decide ((k:Int) < k) = false:=decide_eq_false (by omega);have hLS:L.map (·.2) = S:=by rw [hLm,List.take_of_length_le (by rw [hSl.out];exact Nat.le_refl _)]
   obtain ⟨ob,oo,rfl⟩:∃ ob oo,a' = some ⟨ob,oo,none⟩:=by
    cases L with
    | nil => simp at hLk;omega
    | cons y r => obtain ⟨b',o',ha,-⟩:=hSA.r 0 y rfl;exact ⟨b',o',ha⟩
   have gw:=gB.trans gr;have hA0:=hA8.out.gr gr;have hZ0:=hZ6.out.gr gr;have sB0:=gr.size;have sBe:=sB.out;have hE0:=hE.gr gw;have hL8:∀ x ∈ L,x.1 ≠ w.heap.size + 1:=fun x hx => by have:=hLo x hx;omega
   have ho8:ob ≠ w.heap.size + 1:=by have:=(hza _ rfl).1;dsimp only at this;omega
   clear hza hLo hO hLm;replace hLk:=Lib.hid hLk;replace hSA:=Lib.hid hSA;replace hLS:=Lib.hid hLS;replace hA0:=Lib.hid hA0;replace hZ0:=Lib.hid hZ0;replace hL8:=Lib.hid hL8;obtain ⟨n8,hn8⟩:∃ n8,n8 = w.heap.size + 1:=⟨_,rfl⟩
   rw [← hn8] at hA0 hL8 ho8 ⊢;replace sBe:=Lib.hid sBe;have h68:w.heap.size < n8:=by omega
   have z8:n8 < wo.heap.size:=hA0.out.lt;replace hn8:=Lib.hid hn8;go_wp2_with fail;go_loopw [14] (fun v wr => ∃ (R:List RcM) (ra:Option Addr) (rc:Nat),Hid (Blk wr n8 (arC f k (usedR (R.map (·.r))) ra R.length rc) 158∧RowAt wo wr ra rc R∧GrX [n8] wo wr∧usedR (R.map (·.r))≤k∧areaF S = scanF (S.length + 1) S (R.map (·.r)))) (fun _ wr => k - (intOf ((wr.cell? ⟨n8,2,none⟩).getD undef)).toNat);case atStart => exact ⟨[],none,0,Lib.hid ⟨hA0.out,RowAt.nil _ _,GrX.refl _ _,Nat.zero_le _,rfl⟩⟩
   case round =>
    obtain ⟨R,ra,rc,hI⟩:=hrel;obtain ⟨hAr,hR,gX,hu,hsc⟩:=hI.out;clear hI;obtain ⟨wq,rfl⟩:∃ wq:World,wq = wr:=⟨wr,rfl⟩
    obtain ⟨Rs,hRs⟩:∃ Rs,Rs = R.map (·.r):=⟨_,rfl⟩
    rw [← hRs] at hAr hu hsc;obtain ⟨u,hue⟩:∃ u,u = usedR Rs:=⟨_,rfl⟩
    rw [← hue] at hAr hu;have gq:Gr w wq:=GrX.all gw gX (fun x hx => by simp at hx;omega);have hRl:R.length≤u:=by have:=usedR_ge Rs;rw [hRs,List.length_map,← hRs] at this;omega
    have hEq:=hE.gr gq;have hSq:SecsAt wq (some ⟨ob,oo,none⟩) L:=by
     refine ⟨fun i s hi => ?_,fun x hx => ⟨(hSA.out.b x hx).1.grx gX (fun y hy _ => by cases hy;simpa using hL8.out x hx),(hSA.out.b x hx).2⟩⟩;obtain ⟨b',off',ha,hb',hc'⟩:=hSA.out.r i s hi;cases ha
     exact ⟨ob,oo,rfl,Nat.lt_of_lt_of_le hb' gX.size,fun j v hv => by rw [gX.cell hb' (by simpa using ho8)];exact hc' j v hv⟩
    have hZq:Blk wq w.heap.size arZ 158:=hZ0.out.grx gX (by simp;omega);have c2:=hAr.cell (i:=2) (v:=.int .i64 u) rfl;have zq:=hAr.lt;have hRd:∀ w1,Gr wq w1→RowAt w w1 ra rc R:=fun w1 g => (hR.gr g).older gw.size
    have hfin:areaF S = Rs→∀ w1,Gr wq w1→ScnP M.d f k w (.returned (.tuple #[.agg (arC f k u ra R.length rc),.nilIface])) ((((w1.setCell ⟨w.heap.size,0,none⟩ (.int .i64 f)).setCell ⟨w.heap.size,1,none⟩ (.int .i64 k)).setCell ⟨w.heap.size,2,none⟩ (.int .i64 u)).setCell ⟨w.heap.size,3,none⟩ (.slice ra R.length rc)):=fun hs w1 g => by
     have h1:∀ x,ra = some x→x.block ≠ w.heap.size:=fun x hx => by have:=(hR.lo x hx).1;have:=gw.size;omega
     have h2:∀ x ∈ R,∀ y,x.a = some y→y.block ≠ w.heap.size:=fun x hx y hy => by have:=(hR.d x hx).2.2.2 y hy;omega
     refine ⟨(gq.trans g).set4 (Nat.le_refl _) _ _ _ _,R,ra,rc,by rw [← hS.out,hs,hRs],by rw [← hS.out,hs,hue],?_⟩;exact (((RowAt.set (hRd w1 g) (p:=⟨w.heap.size,0,none⟩) h1 h2 _).set (p:=⟨w.heap.size,1,none⟩) h1 h2 _).set (p:=⟨w.heap.size,2,none⟩) h1 h2 _).set (p:=⟨w.heap.size,3,none⟩) h1 h2 _
    replace hfin:=Lib.hid hfin;replace hRd:=Lib.hid hRd;replace hAr:=Lib.hid hAr;replace hZq:=Lib.hid hZq;replace hR:=Lib.hid hR;replace hRs:=Lib.hid hRs;replace hsc:=Lib.hid hsc;by_cases hcu:c' = u
    ·obtain rfl:u = k:=by omega
     obtain rfl:c' = u:=hcu;have hst:=stands_nil wq (some ⟨ob,oo,none⟩) 0;have hnone:standF (S.drop (usedR Rs)) = none:=by rw [← hue,List.drop_of_length_le (by rw [hSl.out];exact Nat.le_refl _)];rfl
     have hsa:areaF S = Rs:=by rw [hsc.out];exact scanF_stop hnone
     replace hue:=Lib.hid hue;replace hnone:=Lib.hid hnone;replace hsa:=Lib.hid hsa;replace hst:=Lib.hid hst;replace hSq:=Lib.hid hSq;go_wp2_with fail;refine hst.out.mono ?_;rintro e w1 ⟨g1,rfl⟩;obtain ⟨w2,hw2⟩:∃ w2,w2 = w1.alloc (.cells rcZ 167):=⟨_,rfl⟩
     have g12:Gr w1 w2:=by rw [hw2];exact (Gr.refl _).alloc _
     have g02:=g1.trans g12;replace hw2:=Lib.hid hw2;have hA2:=hAr.out.gr g02;have hZ2:=hZq.out.gr g02;have a0:=hA2.cell (i:=0) (v:=.int .i64 f) rfl;have a1:=hA2.cell (i:=1) (v:=.int .i64 c') rfl;have a2:=hA2.cell (i:=2) (v:=.int .i64 c') rfl;have a3:=hA2.cell (i:=3) (v:=.slice ra R.length rc) rfl;have za:=hA2.lt;have f0:=hZ2.free 0;have f1:=hZ2.free 1;have f2:=hZ2.free 2;have f3:=hZ2.free 3;have b0:=hZ2.cell (i:=0) (v:=.int .i64 0) rfl;have b1:=hZ2.cell (i:=1) (v:=.int .i64 0) rfl;have b2:=hZ2.cell (i:=2) (v:=.int .i64 0) rfl;have b3:=hZ2.cell (i:=3) (v:=.slice none 0 0) rfl;have zb:=hZ2.lt;have hfw:=hfin.out hsa.out w2 g02;replace hfw:=Lib.hid hfw;replace hA2:=Lib.hid hA2;replace hZ2:=Lib.hid hZ2;go_upto_region 12 with fail
     rw [← hw2.out];go_wp2_with fail;refine bodyPost_ret (v:=.tuple #[.agg (arC f c' c' ra R.length rc),.nilIface]) ?_ rfl hfw.out;exact (res_cell (b:=w.heap.size) (t:=158) Tryz.results115 _ _ (hZ2.out.set4 rfl _ _ _ _) rfl Tryz.underlying158 (by kernel_rfl)).trans rfl
    ·have hst:=stands_any wq hEq i1 i2 i3 ob (oo + u) (k - u) (c' - u) (L.drop u) (by rw [List.length_drop,hLk.out]) (hSq.drop u) (by omega) (by omega);have hdm:(L.drop u).map (·.2) = S.drop u:=by rw [List.map_drop,hLS.out]
     rw [hdm] at hst;replace hst:=Lib.hid hst;replace hSq:=Lib.hid hSq;replace hdm:=Lib.hid hdm;replace hue:=Lib.hid hue;go_wp2_with fail;refine hst.out.mono ?_;rintro e w1 ⟨g1,hpp⟩;cases hsf:standF (S.drop u) with
     | none =>
      rw [hsf] at hpp;subst hpp;have hsa:areaF S = Rs:=by rw [hsc.out];exact scanF_stop (by rw [← hue.out];exact hsf)
      replace hsa:=Lib.hid hsa;obtain ⟨w2,hw2⟩:∃ w2,w2 = w1.alloc (.cells rcZ 167):=⟨_,rfl⟩
      have g12:Gr w1 w2:=by rw [hw2];exact (Gr.refl _).alloc _
      have g02:=g1.trans g12;replace hw2:=Lib.hid hw2;have hA2:=hAr.out.gr g02;have hZ2:=hZq.out.gr g02;have a0:=hA2.cell (i:=0) (v:=.int .i64 f) rfl;have a1:=hA2.cell (i:=1) (v:=.int .i64 k) rfl;have a2:=hA2.cell (i:=2) (v:=.int .i64 u) rfl;have a3:=hA2.cell (i:=3) (v:=.slice ra R.length rc) rfl;have za:=hA2.lt;have f0:=hZ2.free 0;have f1:=hZ2.free 1;have f2:=hZ2.free 2;have f3:=hZ2.free 3;have b0:=hZ2.cell (i:=0) (v:=.int .i64 0) rfl;have b1:=hZ2.cell (i:=1) (v:=.int .i64 0) rfl;have b2:=hZ2.cell (i:=2) (v:=.int .i64 0) rfl;have b3:=hZ2.cell (i:=3) (v:=.slice none 0 0) rfl;have zb:=hZ2.lt;have hfw:=hfin.out hsa.out w2 g02;replace hfw:=Lib.hid hfw;replace hA2:=Lib.hid hA2;replace hZ2:=Lib.hid hZ2;go_upto_region 12 with fail
      rw [← hw2.out];go_wp2_with fail;refine bodyPost_ret (v:=.tuple #[.agg (arC f k u ra R.length rc),.nilIface]) ?_ rfl hfw.out;exact (res_cell (b:=w.heap.size) (t:=158) Tryz.results115 _ _ (hZ2.out.set4 rfl _ _ _ _) rfl Tryz.underlying158 (by kernel_rfl)).trans rfl
     | some r =>
      rw [hsf] at hpp;obtain ⟨ar,cr,rfl,hor⟩:=hpp;have hsf':standF (S.drop (usedR Rs)) = some r:=by rw [← hue.out];exact hsf
      obtain ⟨w2,hw2⟩:∃ w2,w2 = w1.alloc (.cells (rcC r ar cr).toArray 167):=⟨_,rfl⟩
      have g12:Gr w1 w2:=by rw [hw2];exact (Gr.refl _).alloc _
      have g02:=g1.trans g12;obtain ⟨n13,hn13⟩:∃ n13,n13 = w1.heap.size:=⟨_,rfl⟩
      have hK2:Blk w2 n13 (rcC r ar cr).toArray 167:=by rw [hw2,hn13];exact Blk.new _ _ _
      have hfo:=follows_any wo w2 n8 f k u rc ra R (hAr.out.gr g02) (hR.out.gr g02) r ar cr (by omega);rw [← hRs.out] at hfo;have hor2:=hor.gr g12;have zk:=hK2.lt;have k0:=hK2.cell (i:=0) (v:=.int .i64 r.g) rfl;have k1:=hK2.cell (i:=1) (v:=.int .i64 r.e) rfl;have k2:=hK2.cell (i:=2) (v:=.int .i64 r.i) rfl;have k3:=hK2.cell (i:=3) (v:=.slice ar r.d.length cr) rfl;replace hw2:=Lib.hid hw2;replace hn13:=Lib.hid hn13;replace hK2:=Lib.hid hK2;replace hor:=Lib.hid hor;replace hor2:=Lib.hid hor2;replace hsf:=Lib.hid hsf;by_cases hfl:folF Rs r
      ·rw [decide_eq_true hfl] at hfo;obtain ⟨hsg,hub⟩:=scanF_good hS64.out (by rw [← hue.out,hSl.out];omega) hsf' hfl;rw [usedR_snoc,← hue.out,hSl.out] at hub;have hcp:=costR_pos r;replace hsf':=Lib.hid hsf';replace hfl:=Lib.hid hfl;replace hsg:=Lib.hid hsg;replace hfo:=Lib.hid hfo;go_upto_region 12 with fail
       rw [← hw2.out,← hn13.out];go_wp2_with fail;refine hfo.out.mono ?_;rintro e w3 ⟨rfl,g23⟩;have g03:=g02.trans g23;have hA3:=hAr.out.gr g03;have hK3:=hK2.out.gr g23;have a2:=hA3.cell (i:=2) (v:=.int .i64 u) rfl;have za:=hA3.lt;have f2:=hA3.free 2;obtain ⟨cu,hcue⟩:∃ cu,cu = costR r:=⟨_,rfl⟩
       rw [← hcue] at hub hcp ⊢;obtain ⟨w4,hw4⟩:∃ w4,w4 = w3.setCell ⟨n8,2,none⟩ (.int .i64 ((u:Int) + cu)):=⟨_,rfl⟩
       have g34:GrX [n8] w3 w4:=by rw [hw4];exact (GrX.refl _ _).set (.inl (by simp)) _
       have hA4:Blk w4 n8 (arC f k (u + cu) ra R.length rc) 158:=by
        rw [hw4];have:=hA3.set 2 (.int .i64 ((u:Int) + cu));exact this
       have hn138:n13 ≠ n8:=by have:=hn13.out;have:=g1.size;omega
       have hK4:=hK3.grx g34 (by simpa using hn138);have hrn8:∀ x,ra = some x→x.block ∉ [n8]:=fun x hx => by have:=(hR.out.lo x hx).1;simp;omega
       have hdn8:∀ x ∈ R,∀ y,x.a = some y→y.block ∉ [n8]:=fun x hx y hy => by have:=(hR.out.d x hx).2.2.2 y hy;simp;omega
       have hR4:=(hR.out.gr g03).grx g34 hrn8 hdn8;have hqo:=gX.size;have hor4:=(((hor2.out.gr g23).grx g34 (fun x hx => by have:=hor.out.2.2.2 x hx;simp;omega))).older (W:=wo) hqo;obtain ⟨w5,hw5⟩:∃ w5,w5 = w4.alloc (.cells #[.int .i64 r.g,.int .i64 r.e,.int .i64 r.i,.slice ar r.d.length cr] 167):=⟨_,rfl⟩
       have g45:Gr w4 w5:=by rw [hw5];exact (Gr.refl _).alloc _
       have hT5:RecsAt 4 rmC w5 (some ⟨w4.heap.size,0,none⟩) [(⟨r,ar,cr⟩:RcM)]:=by rw [hw5];exact recs_alloc1 rmC_len w4 rfl [(⟨r,ar,cr⟩:RcM)] _ _ rfl
       have hR5:=hR4.gr g45;have hor5:=hor4.gr g45;have hA5:=hA4.gr g45;have s5:wo.heap.size≤w5.heap.size:=by have:=g03.size;have:=g45.size;have:=g34.size;omega
       have d0:=hK4.cell (i:=0) (v:=.int .i64 r.g) rfl;have d1:=hK4.cell (i:=1) (v:=.int .i64 r.e) rfl;have d2:=hK4.cell (i:=2) (v:=.int .i64 r.i) rfl;have d3:=hK4.cell (i:=3) (v:=.slice ar r.d.length cr) rfl;have zd:=hK4.lt;have e3:=hA4.cell (i:=3) (v:=.slice ra R.length rc) rfl;have ze:=hA4.lt;have hsz:R.length + 1≤1000000:=by omega
       have hln:(R ++ [(⟨r,ar,cr⟩:RcM)]).length = R.length + 1:=by simp
       have gX5:GrX [n8] wo w5:=((gX.gr g03).trans g34).gr g45;have hcu2:costN (frR r).length = cu:=hcue.symm;replace hA3:=Lib.hid hA3;replace hA4:=Lib.hid hA4;replace hA5:=Lib.hid hA5;replace hK3:=Lib.hid hK3;replace hK4:=Lib.hid hK4;replace hR4:=Lib.hid hR4;replace hR5:=Lib.hid hR5;replace hT5:=Lib.hid hT5;replace hor4:=Lib.hid hor4;replace hor5:=Lib.hid hor5;replace hw4:=Lib.hid hw4;replace hw5:=Lib.hid hw5;replace hln:=Lib.hid hln;replace hrn8:=Lib.hid hrn8;replace hdn8:=Lib.hid hdn8;replace hcue:=Lib.hid hcue;replace hcu2:=Lib.hid hcu2;have hno:∀ x,(Value.slice ra R.length rc).ownBlock = some x→x ≠ n8:=fun x hx => by
        cases ra with
        | none => cases hx
        | some q => cases hx;have:=hrn8.out q rfl;simpa using this
       replace hno:=Lib.hid hno;go_upto_region 15 with fail
       rw [← hw4.out];go_wp2_with (at_builtin;go_loud (rw [← hw5.out];refine wpList_appRc (W:=wo) rfl _ _ rfl ra rc R.length R rfl rfl hR5.out w4.heap.size ⟨r,ar,cr⟩ rfl hT5.out hor5.out hsz s5 ?_;intro ra9 rc9 w9 hR9 hg9 hp9;have hA9:=hA5.out.grown hg9 (fun e => hno.out n8 e.symm rfl);have p3:=hA9.cell (i:=3) (v:=.slice ra R.length rc) rfl;have zp:=hA9.lt;have pf:=hA9.free 3;replace hA9:=Lib.hid hA9;replace hR9:=Lib.hid hR9;replace hg9:=Lib.hid hg9;replace hp9:=Lib.hid hp9));have hA10:Blk (w9.setCell ⟨n8,3,none⟩ (.slice ra9 (R.length + 1) rc9)) n8 (arC f k (u + cu) ra9 (R.length + 1) rc9) 158:=hA9.out.set 3 _;have m2:=hA10.cell (i:=2) (v:=.int .i64 ((u + cu:Nat):Int)) rfl;replace hA10:=Lib.hid hA10;go_roundw;case rel =>
        have hlo:=hR9.out.lo;have hmp:(R ++ [(⟨r,ar,cr⟩:RcM)]).map (·.r) = Rs ++ [r]:=by rw [List.map_append,← hRs.out];rfl
        have hus:usedR (Rs ++ [r]) = u + cu:=by rw [usedR_snoc,← hue.out,← hcue.out]
        refine ⟨R ++ [⟨r,ar,cr⟩],ra9,rc9,Lib.hid ⟨?_,?_,?_,?_,?_⟩⟩
        ·rw [hmp,hus,hln.out];exact hA10.out
        ·exact hR9.out.set (p:=⟨n8,3,none⟩) (fun x hx => by have:=(hlo x hx).1;show x.block ≠ n8;omega) (fun x hx y hy => by have:=(hR9.out.d x hx).2.2.2 y hy;show y.block ≠ n8;omega) _
        ·refine GrX.set (gX5.grown hg9.out fun x hx => .inr ?_) (p:=⟨n8,3,none⟩) (.inl (by simp)) _;cases ra with
         | none => cases hx
         | some q => cases hx;exact (hR5.out.lo q rfl).1
        ·rw [hmp,hus];exact hub
        ·rw [hmp,hsc.out];exact hsg.out
       case measure =>
        simp only [m2,c2,Option.getD_some,intOf];omega
      ·rw [decide_eq_false hfl] at hfo;have hsa:areaF S = Rs:=by rw [hsc.out];exact scanF_bad hsf' hfl
       replace hsf':=Lib.hid hsf';replace hfl:=Lib.hid hfl;replace hsa:=Lib.hid hsa;replace hfo:=Lib.hid hfo;go_upto_region 12 with fail
       rw [← hw2.out,← hn13.out];go_wp2_with fail;refine hfo.out.mono ?_;rintro e w3 ⟨rfl,g23⟩;have g03:=g02.trans g23;have hA2:=hAr.out.gr g03;have hZ2:=hZq.out.gr g03;have a0:=hA2.cell (i:=0) (v:=.int .i64 f) rfl;have a1:=hA2.cell (i:=1) (v:=.int .i64 k) rfl;have a2:=hA2.cell (i:=2) (v:=.int .i64 u) rfl;have a3:=hA2.cell (i:=3) (v:=.slice ra R.length rc) rfl;have za:=hA2.lt;have f0:=hZ2.free 0;have f1:=hZ2.free 1;have f2:=hZ2.free 2;have f3:=hZ2.free 3;have b0:=hZ2.cell (i:=0) (v:=.int .i64 0) rfl;have b1:=hZ2.cell (i:=1) (v:=.int .i64 0) rfl;have b2:=hZ2.cell (i:=2) (v:=.int .i64 0) rfl;have b3:=hZ2.cell (i:=3) (v:=.slice none 0 0) rfl;have zb:=hZ2.lt;have hfw:=hfin.out hsa.out w3 g03;replace hfw:=Lib.hid hfw;replace hA2:=Lib.hid hA2;replace hZ2:=Lib.hid hZ2;go_wp2_with fail;refine bodyPost_ret (v:=.tuple #[.agg (arC f k u ra R.length rc),.nilIface]) ?_ rfl hfw.out;exact (res_cell (b:=w.heap.size) (t:=158) Tryz.results115 _ _ (hZ2.out.set4 rfl _ _ _ _) rfl Tryz.underlying158 (by kernel_rfl)).trans rfl
theorem chk_lost {d:DskV} (h:d.lost = true) (i:Int):d.chk i = some 0:=by unfold DskV.chk;rw [if_pos h]
abbrev lostE (E:Nat→Addr):Value:=.iface 297 (.pointer (some (E 0)))
theorem res_cc {fn:Func} {p q u:Tmp} {ty ty':TypeId} (h:fn.results = #[.cell p ty,.cell q ty',.tmp u]) (tmps:Array Value) (w:World) {b b':Nat} {cs cs':Array Value} {t t':TypeId} {fs fs':Array Field} (hb:Blk w b cs t) (hb':Blk w b' cs' t')
 (hp:tmps.getD p undef = .pointer (some ⟨b,0,none⟩)) (hq:tmps.getD q undef = .pointer (some ⟨b',0,none⟩)) (hu:Tryz.prog.underlying ty = some (.struct fs)) (hu':Tryz.prog.underlying ty' = some (.struct fs')) (hi:(Tryz.prog.info? ty).map (·.size) = some cs.size) (hi':(Tryz.prog.info? ty').map (·.size) = some cs'.size) :
 (results fn tmps).run Tryz.prog w = .ok (.tuple #[.agg cs,.agg cs',tmps.getD u undef]) w:=by
 have hl:=run_loadVar_row (P:=Tryz.prog) w b t ty cs (0,0) _ hb hu rfl hi;have hl':=run_loadVar_row (P:=Tryz.prog) w b' t' ty' cs' (0,0) _ hb' hu' rfl hi';have e:(results fn tmps).run Tryz.prog w =
  ((asAddr (tmps.getD p undef)).run Tryz.prog w).andThen fun a w₁ => ((loadVar ty a).run Tryz.prog w₁).andThen fun x w₂ => ((asAddr (tmps.getD q undef)).run Tryz.prog w₂).andThen fun a w₃ => ((loadVar ty' a).run Tryz.prog w₃).andThen fun y w₄ => .ok (.tuple #[x,y,tmps.getD u undef]) w₄:=by
  simp only [results,h];simp [Sem.run_bind,Result.andThen]
 rw [e,hp,hq];simp [asAddr,Result.andThen,hl,hl']
theorem scan_no {G:List Nat} {E:Nat→Addr} (w:World) (hE:EAt G E w) (i4:0 ∈ G) (i5:1 ∈ G) {db:Nat} {M:DskM} (h:DskAt w db M) (hl:M.d.lost = true) (f n:Nat) (hf:f≤1024) (h1:1≤n) :
 Calls Tryz.prog 115 #[.pointer (some ⟨db,0,none⟩),.int .i64 f,.int .i64 n] w fun e w' => e = .returned (.tuple #[.agg arZ,lostE E])∧Gr w w':=by
 obtain ⟨wB,hwB⟩:∃ wB,wB = (w.alloc (.cells arZ 158)).alloc (.cells #[.int .i64 f,.int .i64 n,.int .i64 0,.slice none 0 0] 158):=⟨_,rfl⟩
 have gB:Gr w wB:=by rw [hwB];exact ((Gr.refl w).alloc _).alloc _
 have hZ:Blk wB w.heap.size arZ 158:=by rw [hwB];exact (Blk.new _ _ _).alloc _
 have hrd:Calls Tryz.prog 152 #[.pointer (some ⟨db,0,none⟩),.int .i64 (f:Int)] wB fun e w' => e = .returned (.tuple #[.slice none 0 0,lostE E])∧w' = wB:=dread_no wB (hE.gr gB) i4 i5 (h.gr gB) f _ (chk_lost hl f)
 have f0:=hZ.free 0;have f1:=hZ.free 1;have f2:=hZ.free 2;have f3:=hZ.free 3;have b0:=hZ.cell (i:=0) (v:=.int .i64 0) rfl;have b1:=hZ.cell (i:=1) (v:=.int .i64 0) rfl;have b2:=hZ.cell (i:=2) (v:=.int .i64 0) rfl;have b3:=hZ.cell (i:=3) (v:=.slice none 0 0) rfl;have zb:=hZ.lt;have hn0:decide ((0:Int) < n) = true:=decide_eq_true (by omega);have hn1:decide (0 < n) = true:=decide_eq_true h1;have hn2:(0 < n) = True:=eq_true h1;have gf:=gB.set4 (Nat.le_refl _) (.int .i64 0) (.int .i64 0) (.int .i64 0) (.slice none 0 0);replace hrd:=Lib.hid hrd;replace hwB:=Lib.hid hwB;replace h:=Lib.hid h;replace hl:=Lib.hid hl;replace hZ:=Lib.hid hZ;replace gf:=Lib.hid gf;go_enter Tryz.func115,Tryz.ntmps115;go_upto_region 2 with fail
 rw [← hwB.out];go_wp2_with fail;go_loopw [20] (fun iv wr => iv = .int .i64 0∧wr = wB) (fun iv _ => 0);case atStart => exact ⟨rfl,rfl⟩
 case round =>
  obtain ⟨rfl,rfl⟩:=hrel;go_wp2_with fail;refine hrd.out.mono ?_;rintro e w1 ⟨rfl,rfl⟩;go_wp2_with fail;refine bodyPost_ret (v:=.tuple #[.agg arZ,lostE E]) ?_ rfl ⟨rfl,gf.out⟩;exact (res_cell (b:=w.heap.size) (t:=158) Tryz.results115 _ _ (hZ.out.set4 rfl _ _ _ _) rfl Tryz.underlying158 (by kernel_rfl)).trans rfl
def halfD (d:DskV):Nat:=(d.n - 2) / 2
def areaA (d:DskV):List Rc:=areaF (secL d 0 (halfD d))
def areaB (d:DskV):List Rc:=areaF (secL d (halfD d) (halfD d))
def secondD (d:DskV):Bool:=decide (numF (areaA d) < numF (areaB d))
def newR (d:DskV):List Rc:=if secondD d = true then areaB d else areaA d
def firstD (d:DskV) (s:Bool):Nat:=if s = true then halfD d else 0
def BothP (d:DskV) (w:World) (e:Ending) (w':World):Prop:=Gr w w'∧∃ R ra rc ra2 k2 rc2 u2,R.map (·.r) = newR d∧e = .returned (.tuple #[.agg (arC (firstD d (secondD d)) (halfD d) (usedR (newR d)) ra R.length rc),.agg (arC (firstD d (!secondD d)) (halfD d) u2 ra2 k2 rc2),.nilIface])∧RowAt w w' ra rc R
abbrev numE (E:Nat→Addr):Value:=.iface 297 (.pointer (some (E 1)))
theorem Gr.set8 {w a:World} {b b':Nat} (h:Gr w a) (hb:w.heap.size≤b) (hb':w.heap.size≤b') (v0 v1 v2 v3 u0 u1 u2 u3:Value):Gr w ((((((((a.setCell ⟨b,0,none⟩ v0).setCell ⟨b,1,none⟩ v1).setCell ⟨b,2,none⟩ v2).setCell ⟨b,3,none⟩ v3).setCell ⟨b',0,none⟩ u0).setCell ⟨b',1,none⟩ u1).setCell ⟨b',2,none⟩ u2).setCell ⟨b',3,none⟩ u3):=(h.set4 hb v0 v1 v2 v3).set4 hb' u0 u1 u2 u3
theorem Blk.off4 {w:World} {b:Nat} {cs:Array Value} {t:TypeId} (h:Blk w b cs t) {b':Nat} (hn:b ≠ b') (u0 u1 u2 u3:Value):Blk ((((w.setCell ⟨b',0,none⟩ u0).setCell ⟨b',1,none⟩ u1).setCell ⟨b',2,none⟩ u2).setCell ⟨b',3,none⟩ u3) b cs t :=
 (((h.other (a:=⟨b',0,none⟩) hn _).other (a:=⟨b',1,none⟩) hn _).other (a:=⟨b',2,none⟩) hn _).other (a:=⟨b',3,none⟩) hn _
theorem RowAt.set4 {W w:World} {ra:Option Addr} {rc:Nat} {R:List RcM} (h:RowAt W w ra rc R) {b:Nat} (h1:∀ x,ra = some x→x.block ≠ b) (h2:∀ x ∈ R,∀ y,x.a = some y→y.block ≠ b) (u0 u1 u2 u3:Value):RowAt W ((((w.setCell ⟨b,0,none⟩ u0).setCell ⟨b,1,none⟩ u1).setCell ⟨b,2,none⟩ u2).setCell ⟨b,3,none⟩ u3) ra rc R :=
 (((h.set (p:=⟨b,0,none⟩) h1 h2 _).set (p:=⟨b,1,none⟩) h1 h2 _).set (p:=⟨b,2,none⟩) h1 h2 _).set (p:=⟨b,3,none⟩) h1 h2 _
def cellF (S:List UInt8):Nat:=match frF S with
 | none => 0
 | some p => match numR p with
  | none => 0
  | some q => if q.1≤1099511627776∧q.2 = p.length then q.1 else 0
theorem cellF_none {S:List UInt8} (h:frF S = none):cellF S = 0:=by unfold cellF;rw [h]
theorem cellF_bad {S p:List UInt8} (h:frF S = some p) (hq:∀ v k,numR p = some (v,k)→¬ (v≤1099511627776∧k = p.length)):cellF S = 0:=by
 unfold cellF;rw [h];dsimp only;cases hn:numR p with
 | none => rfl
 | some q => dsimp only;rw [if_neg (hq q.1 q.2 hn)]
theorem cellF_good {S p:List UInt8} {v:Nat} (h:frF S = some p) (hq:numR p = some (v,p.length)) (hv:v≤1099511627776):cellF S = v:=by
 unfold cellF;rw [h];dsimp only;rw [hq];dsimp only;rw [if_pos ⟨hv,rfl⟩]
theorem cellF_le (S:List UInt8):cellF S≤1099511627776:=by
 unfold cellF;split
 ·omega
 ·split
  ·omega
  ·split
   ·rename_i h;exact h.1
   ·omega
abbrev CelP (d:DskV) (i:Nat) (w:World) (e:Ending) (w':World):Prop:=e = .returned (.tuple #[.int .i64 (cellF (d.now (d.n - 2 + i)):Int),.nilIface])∧Gr w w'
set_option maxRecDepth 100000 in
set_option maxHeartbeats 3200000 in
theorem cell_any {G:List Nat} {E:Nat→Addr} (w:World) (hE:EAt G E w) (i4:0 ∈ G) (i5:1 ∈ G) (i1:3 ∈ G) (i2:9 ∈ G) (i3:5 ∈ G) {db:Nat} {M:DskM} (h:DskAt w db M) (hl:M.d.lost = false) (hC:M.d.C.length≤1000000) (hn:4≤M.d.n) (i:Nat) (hi:i < 2) :
 Calls Tryz.prog 116 #[.pointer (some ⟨db,0,none⟩),.int .i64 i] w (CelP M.d i w):=by
 obtain ⟨S,hS⟩:∃ S,S = M.d.now (M.d.n - 2 + i):=⟨_,rfl⟩
 have hSl:S.length = 64:=by rw [hS];exact now_len h.ok _
 have hn1:=h.ok.n1;have hse:=dsectors_any w h;have hrd:Calls Tryz.prog 152 #[.pointer (some ⟨db,0,none⟩),.int .i64 ((M.d.n:Int) - 2 + i)] w fun e w' => ∃ b:Nat,e = .returned (.tuple #[.slice (some ⟨b,0,none⟩) 64 64,.nilIface])∧BytesAt w' (some ⟨b,0,none⟩) S∧w.heap.size≤b∧Gr w w':=by
  have:=dread_yes w hE i4 i5 h (M.d.n - 2 + i) (by omega) hl hC;rw [← hS] at this;rw [show ((M.d.n:Int) - 2 + i) = ((M.d.n - 2 + i:Nat):Int) by omega];exact this
 unfold CelP;rw [← hS];obtain ⟨N,hN⟩:∃ N,N = M.d.n:=⟨_,rfl⟩
 rw [← hN] at hse hrd hn1 hn;have hm:S.length≤maxLen:=by rw [hSl];decide
 replace hse:=Lib.hid hse;replace hrd:=Lib.hid hrd;replace hN:=Lib.hid hN;replace hS:=Lib.hid hS;replace h:=Lib.hid h;replace hl:=Lib.hid hl;cases hf:frF S with
 | none =>
  rw [cellF_none hf];have hno:=fun w1 b (hB:BytesAt w1 (some ⟨b,0,none⟩) S) (g:Gr w w1) => readF_no w1 (hE.gr g) i2 i3 b 0 64 S hB (by omega) hm hf
  rw [hSl] at hno;replace hno:=Lib.hid hno;replace hSl:=Lib.hid hSl;replace hf:=Lib.hid hf;go_enter Tryz.func116,Tryz.ntmps116;go_wp2_with fail;refine hse.out.mono ?_;rintro e w1 ⟨rfl,hw1⟩;subst w1;go_wp2_with fail;refine hrd.out.mono ?_;rintro e w1 ⟨b,rfl,hB,-,g1⟩;obtain ⟨er,her,hcl⟩:=hno.out w1 b hB g1;replace hB:=Lib.hid hB;rcases her with rfl | ⟨g,rfl⟩
  ·replace hcl:=Lib.hid hcl;go_wp2_with fail;refine hcl.out.mono ?_;rintro e w2 ⟨rfl,g2⟩;have g3:=g1.trans g2;replace g3:=Lib.hid g3;go_wp2_with fail;go_ret2;exact ⟨rfl,g3.out⟩
  ·replace hcl:=Lib.hid hcl;go_wp2_with fail;refine hcl.out.mono ?_;rintro e w2 ⟨rfl,g2⟩;have g3:=g1.trans g2;replace g3:=Lib.hid g3;go_wp2_with fail;go_ret2;exact ⟨rfl,g3.out⟩
 | some p =>
  have hps:=(frF_some hf).2;have hyes:=fun w1 b (hB:BytesAt w1 (some ⟨b,0,none⟩) S) => readF_yes w1 b 0 64 S p hB (by omega) hm hf
  rw [hSl] at hyes;obtain ⟨n,hn⟩:∃ n,n = p.length:=⟨_,rfl⟩
  rw [← hn] at hyes hps;have e1:((n:Int) + 8 == 0) = false:=beq_eq_false_iff_ne.2 (by omega);have hnr:=fun w1 a1 c1 (ho:BytesAt w1 a1 p) (h2:a1 = none→c1 = 0) => newReader_new w1 a1 c1 p ho h2 (by omega)
  rw [← hn] at hnr;replace hnr:=Lib.hid hnr;replace hyes:=Lib.hid hyes;replace hSl:=Lib.hid hSl;replace hn:=Lib.hid hn;replace hf:=Lib.hid hf;go_enter Tryz.func116,Tryz.ntmps116;go_wp2_with fail;refine hse.out.mono ?_;rintro e w1 ⟨rfl,hw1⟩;subst w1;go_wp2_with fail;refine hrd.out.mono ?_;rintro e w1 ⟨b,rfl,hB,-,g1⟩;have hy1:=hyes.out w1 b hB;replace hB:=Lib.hid hB;replace hy1:=Lib.hid hy1;go_wp2_with fail;refine hy1.out.mono ?_;rintro e w2 ⟨a2,c2,rfl,ho2⟩;have g2:=ho2.2.2.2.2;have hnr2:=hnr.out w2 a2 c2 ho2.2.1 ho2.2.2.1;replace ho2:=Lib.hid ho2;replace hnr2:=Lib.hid hnr2;go_wp2_with fail;refine hnr2.out.mono ?_;rintro e w3 ⟨rb,rfl,hrd3,hrb3,g3⟩;have g03:Gr w w3:=(g1.trans g2).trans g3;have hrb:w.heap.size≤rb:=by have:=(g1.trans g2).size;omega
  have hE3:=hE.gr g03;by_cases hgood:∃ v k,numR p = some (v,k)∧v≤1099511627776
  ·obtain ⟨v,k,hq,hv⟩:=hgood;have hk:=(numR_bd hq).2.2.2;dsimp only at hk;have hnm:=rnum_yes w3 rb p 0 1099511627776 hrd3 (v:=v) (k:=k) (by rw [List.drop_zero];exact hq) (by omega);rw [Nat.zero_add] at hnm;replace hnm:=Lib.hid hnm;replace hrd3:=Lib.hid hrd3;by_cases hend:k = p.length
   ·have hcf:cellF S = v:=cellF_good hf.out (by rw [← hend];exact hq) hv;replace hcf:=Lib.hid hcf;replace hq:=Lib.hid hq;go_wp2_with fail;refine hnm.out.mono ?_;rintro e w4 ⟨rfl,hrd4,hg4⟩;have g04:Gr w w4:=GrX.all g03 hg4 (fun x hx => by simp at hx;omega);have hen:=rend_yes w4 rb p (by rw [hend] at hrd4;exact hrd4);replace hen:=Lib.hid hen;replace hrd4:=Lib.hid hrd4;replace hend:=Lib.hid hend;go_wp2_with fail;refine hen.out.mono ?_;rintro e w5 ⟨rfl,g5⟩;have g05:=g04.trans g5;replace g05:=Lib.hid g05;go_wp2_with fail;go_ret2;exact ⟨by rw [hcf.out];rfl,g05.out⟩
   ·have hcf:cellF S = 0:=cellF_bad hf.out fun v' k' hq' hx => hend (by rw [hq] at hq';injection hq' with hq';injection hq' with _ h2;omega)
    replace hcf:=Lib.hid hcf;replace hq:=Lib.hid hq;go_wp2_with fail;refine hnm.out.mono ?_;rintro e w4 ⟨rfl,hrd4,hg4⟩;have g04:Gr w w4:=GrX.all g03 hg4 (fun x hx => by simp at hx;omega);have hen:=rend_no w4 rb p k hrd4 (by omega) (hE.gr g04) i1;replace hen:=Lib.hid hen;replace hrd4:=Lib.hid hrd4;replace hend:=Lib.hid hend;go_wp2_with fail;refine hen.out.mono ?_;rintro e w5 ⟨rfl,g5⟩;have g05:=g04.trans g5;replace g05:=Lib.hid g05;go_wp2_with fail;go_ret2;exact ⟨by rw [hcf.out];rfl,g05.out⟩
  ·have hcf:cellF S = 0:=cellF_bad hf.out fun v k hq hx => hgood ⟨v,k,hq,hx.1⟩
   have hnm:=rnum_no w3 rb p 0 1099511627776 hrd3 hE3 i1 (fun v k hq => by
    rw [List.drop_zero] at hq;have:¬ v≤1099511627776:=fun hv => hgood ⟨v,k,hq,hv⟩
    omega)
   replace hcf:=Lib.hid hcf;replace hnm:=Lib.hid hnm;replace hrd3:=Lib.hid hrd3;clear hgood;go_wp2_with fail;refine hnm.out.mono ?_;rintro e w4 ⟨rfl,g4⟩;have g04:=g03.trans g4;replace g04:=Lib.hid g04;go_wp2_with fail;go_ret2;exact ⟨by rw [hcf.out];rfl,g04.out⟩
def lastE (rs:List Rc):Nat:=match (rs.getLast?:Option Rc) with
 | none => 0
 | some r => r.e
theorem lastE_snoc (rs:List Rc) (r:Rc):lastE (rs ++ [r]) = r.e:=by unfold lastE;rw [List.getLast?_append,List.getLast?_singleton];rfl
def topS (t:Nat) (d:DskV):Nat→Nat
 | 0 => t
 | k + 1 => max (topS t d k) (cellF (d.now (d.n - 2 + k)))
def topF (d:DskV) (rs:List Rc):Nat:=topS (lastE rs) d 2
theorem topS_le {t:Nat} (ht:t≤1099511627776) (d:DskV):∀ k,topS t d k≤1099511627776
 | 0 => ht
 | k + 1 => by
  have h1:=topS_le ht d k;have h2:=cellF_le (d.now (d.n - 2 + k));show max _ _≤_;omega
abbrev fullE (E:Nat→Addr):Value:=.iface 297 (.pointer (some (E 2)))
def nextV (E:Nat→Addr) (t:Nat):Array Value:=if t < 1099511627776 then #[.int .i64 ((t:Int) + 1),.nilIface] else #[.int .i64 0,fullE E]
theorem nextV_yes (E:Nat→Addr) {t:Nat} (h:t < 1099511627776):nextV E t = #[.int .i64 ((t:Int) + 1),.nilIface]:=if_pos h
theorem nextV_no (E:Nat→Addr) {t:Nat} (h:¬ t < 1099511627776):nextV E t = #[.int .i64 0,fullE E]:=if_neg h
def NextP (d:DskV) (rs:List Rc) (E:Nat→Addr) (w:World) (e:Ending) (w':World):Prop:=Gr w w'∧e = .returned (.tuple (nextV E (topF d rs)))
set_option maxRecDepth 100000 in
set_option maxHeartbeats 800000 in
theorem next_any {G:List Nat} {E:Nat→Addr} (w:World) (hE:EAt G E w) (i4:0 ∈ G) (i5:1 ∈ G) (i1:3 ∈ G) (i2:9 ∈ G) (i3:5 ∈ G) (i6:2 ∈ G) {db:Nat} {M:DskM} (h:DskAt w db M) (hl:M.d.lost = false) (hC:M.d.C.length≤1000000) (hn:4≤M.d.n)
 (W:World) (f n u rc:Nat) (ra:Option Addr) (R:List RcM) (hR:RowAt W w ra rc R) (hRl:R.length≤1000) (hle:lastE (R.map (·.r))≤1099511627776) :
 Calls Tryz.prog 76 #[.pointer (some ⟨db,0,none⟩),.agg (arC f n u ra R.length rc)] w (NextP M.d (R.map (·.r)) E w):=by
 obtain ⟨t,ht⟩:∃ t,t = lastE (R.map (·.r)):=⟨_,rfl⟩
 obtain ⟨wA,hwA⟩:∃ wA,wA = w.alloc (.cells (arC f n u ra R.length rc) 158):=⟨_,rfl⟩
 have gA:Gr w wA:=by rw [hwA];exact (Gr.refl w).alloc _
 have hA:Blk wA w.heap.size (arC f n u ra R.length rc) 158:=by rw [hwA];exact Blk.new _ _ _
 have hE0:=hE.gr gA;have e0:=GrW.cell (hE0.c0 i6);have hce:∀ (w1:World) (k:Nat),Gr wA w1→k < 2→Calls Tryz.prog 116 #[.pointer (some ⟨db,0,none⟩),.int .i64 (k:Int)] w1 (CelP M.d k w1):=fun w1 k g hk => cell_any w1 (hE0.gr g) i4 i5 i1 i2 i3 ((h.gr gA).gr g) hl hC hn k hk
 have hT:=topS_le (d:=M.d) (by rw [← ht] at hle;exact hle);have zA:=hA.lt;clear hle;unfold NextP topF;rw [← ht];have fin:∀ w1,Gr wA w1→Gr w w1:=fun w1 g => gA.trans g
 rcases List.eq_nil_or_concat R with rfl | ⟨R',l,hRe⟩
 ·obtain rfl:t = 0:=ht;rw [List.length_nil] at hwA hA;rw [List.length_nil];have c3:=hA.cell (i:=3) (v:=.slice ra 0 rc) rfl;replace hce:=Lib.hid hce;replace hT:=Lib.hid hT;replace hA:=Lib.hid hA;replace hE0:=Lib.hid hE0;replace e0:=Lib.hid e0;replace fin:=Lib.hid fin;replace hwA:=Lib.hid hwA;replace h:=Lib.hid h;replace hl:=Lib.hid hl;replace hE:=Lib.hid hE;go_enter Tryz.func76,Tryz.ntmps76;go_upto_region 2 with fail
  rw [← hwA.out];go_wp2_with fail;have hn2:(0:Int) < 2:=by omega
  go_loopw [6,23] (fun tv iv wr => ∃ k:Nat,k≤2∧iv = .int .i64 k∧tv = .int .i64 (topS 0 M.d k:Int)∧Gr wA wr) (fun _ iv _ => 2 - (intOf iv).toNat);case atStart => exact ⟨0,Nat.zero_le _,rfl,rfl,Gr.refl _⟩
  case round =>
   obtain ⟨k,hk,rfl,rfl,gk⟩:=hrel;obtain ⟨wo,rfl⟩:∃ wo:World,wo = wr:=⟨wr,rfl⟩
   by_cases hlt:k < 2
   ·have hck:=hce.out wo k gk hlt;have hk2:(k:Int) < 2:=by omega
    have hk3:decide ((k:Int) < 2) = true:=decide_eq_true hk2;obtain ⟨x,hx⟩:∃ x,x = cellF (M.d.now (M.d.n - 2 + k)):=⟨_,rfl⟩
    obtain ⟨y,hy⟩:∃ y,y = topS 0 M.d k:=⟨_,rfl⟩
    have hz:topS 0 M.d (k + 1) = max y x:=by rw [hx,hy];rfl
    unfold CelP at hck;rw [← hx] at hck;rw [← hy];replace hck:=Lib.hid hck;replace hx:=Lib.hid hx;replace hy:=Lib.hid hy;replace hz:=Lib.hid hz;go_wp2_with fail;refine hck.out.mono ?_;rintro e w1 ⟨rfl,g1⟩;go_wp2_with fail;go_roundw;case rel => exact ⟨k + 1,by omega,by go_num,by rw [hz.out];go_num,gk.trans g1⟩
    case measure => simp [intOf];omega
   ·obtain rfl:k = 2:=by omega
    have hk3:decide (((2:Nat):Int) < 2) = false:=by decide
    have hle2:=hT.out 2;have gf:=fin.out wo gk;obtain ⟨y,hy⟩:∃ y,y = topS 0 M.d 2:=⟨_,rfl⟩
    rw [← hy] at hle2 ⊢;have e0w:wo.cell? ⟨2,0,none⟩ = some (fullE E):=e0.out ⟨wo,gk⟩;replace hy:=Lib.hid hy;replace gf:=Lib.hid gf;by_cases hb:y < 1099511627776
    ·have hb1:decide ((1099511627776:Int)≤y) = false:=decide_eq_false (by omega);replace hb:=Lib.hid hb;go_wp2_with fail;go_ret2;exact ⟨gf.out,by rw [← hy.out,nextV_yes E hb.out];rfl⟩
    ·have hb1:decide ((1099511627776:Int)≤y) = true:=decide_eq_true (by omega);have gg:=(gf.out).drew;replace hb:=Lib.hid hb;go_upto_region 14 with fail
     go_region;go_wp2_with fail;go_ret2;exact ⟨gg,by rw [← hy.out,nextV_no E hb.out];rfl⟩
 ·rw [List.concat_eq_append] at hRe;subst hRe;obtain ⟨b,off,rfl,hb,d0,d1,d2,d3⟩:=hR.cell (k:=R'.length) (x:=l) (by simp);obtain ⟨m,hm⟩:∃ m,m = R'.length:=⟨_,rfl⟩
  rw [List.length_append,List.length_singleton,← hm] at hA hRl hwA;rw [← hm] at d1;rw [List.length_append,List.length_singleton,← hm];have htl:t = l.r.e:=by rw [ht,List.map_append];exact lastE_snoc _ _
  have c3:=hA.cell (i:=3) (v:=.slice (some ⟨b,off,none⟩) (m + 1) rc) rfl;have e1:wA.cell? ⟨b,off + m * 4 + 1,none⟩ = some (.int .i64 t):=by rw [gA.cells.1 _ _ hb,htl];exact d1
  have hbA:b < wA.heap.size:=Nat.lt_of_lt_of_le hb gA.size;replace htl:=Lib.hid htl;replace ht:=Lib.hid ht;clear d0 d1 d2 d3;have q1:IntKind.i64.wrap (m:Int) = (m:Int):=wraps_i64 _ (by omega) (by omega);have q2:wrap64 (m:Int) = (m:Int):=by unfold wrap64;omega
  have q3:(0:Int)≤(m:Int)∧(m:Int) < (m:Int) + 1:=by omega
  have q4:decide ((0:Int) < (m:Int) + 1) = true:=decide_eq_true (by omega);replace hR:=Lib.hid hR;replace hm:=Lib.hid hm;replace hce:=Lib.hid hce;replace hT:=Lib.hid hT;replace hA:=Lib.hid hA;replace hE0:=Lib.hid hE0;replace e0:=Lib.hid e0;replace fin:=Lib.hid fin;replace hwA:=Lib.hid hwA;replace h:=Lib.hid h;replace hl:=Lib.hid hl;replace hE:=Lib.hid hE;go_enter Tryz.func76,Tryz.ntmps76;go_upto_region 2 with fail
  rw [← hwA.out];go_wp2_with fail;have hn2:(0:Int) < 2:=by omega
  go_loopw [6,23] (fun tv iv wr => ∃ k:Nat,k≤2∧iv = .int .i64 k∧tv = .int .i64 (topS t M.d k:Int)∧Gr wA wr) (fun _ iv _ => 2 - (intOf iv).toNat);case atStart => exact ⟨0,Nat.zero_le _,rfl,rfl,Gr.refl _⟩
  case round =>
   obtain ⟨k,hk,rfl,rfl,gk⟩:=hrel;obtain ⟨wo,rfl⟩:∃ wo:World,wo = wr:=⟨wr,rfl⟩
   by_cases hlt:k < 2
   ·have hck:=hce.out wo k gk hlt;have hk2:(k:Int) < 2:=by omega
    have hk3:decide ((k:Int) < 2) = true:=decide_eq_true hk2;obtain ⟨x,hx⟩:∃ x,x = cellF (M.d.now (M.d.n - 2 + k)):=⟨_,rfl⟩
    obtain ⟨y,hy⟩:∃ y,y = topS t M.d k:=⟨_,rfl⟩
    have hz:topS t M.d (k + 1) = max y x:=by rw [hx,hy];rfl
    unfold CelP at hck;rw [← hx] at hck;rw [← hy];replace hck:=Lib.hid hck;replace hx:=Lib.hid hx;replace hy:=Lib.hid hy;replace hz:=Lib.hid hz;go_wp2_with fail;refine hck.out.mono ?_;rintro e w1 ⟨rfl,g1⟩;go_wp2_with fail;go_roundw;case rel => exact ⟨k + 1,by omega,by go_num,by rw [hz.out];go_num,gk.trans g1⟩
    case measure => simp [intOf];omega
   ·obtain rfl:k = 2:=by omega
    have hk3:decide (((2:Nat):Int) < 2) = false:=by decide
    have hle2:=hT.out 2;have gf:=fin.out wo gk;obtain ⟨y,hy⟩:∃ y,y = topS t M.d 2:=⟨_,rfl⟩
    rw [← hy] at hle2 ⊢;have e0w:wo.cell? ⟨2,0,none⟩ = some (fullE E):=e0.out ⟨wo,gk⟩;replace hy:=Lib.hid hy;replace gf:=Lib.hid gf;by_cases hb:y < 1099511627776
    ·have hb1:decide ((1099511627776:Int)≤y) = false:=decide_eq_false (by omega);replace hb:=Lib.hid hb;go_wp2_with fail;go_ret2;exact ⟨gf.out,by rw [← hy.out,nextV_yes E hb.out];rfl⟩
    ·have hb1:decide ((1099511627776:Int)≤y) = true:=decide_eq_true (by omega);have gg:=(gf.out).drew;replace hb:=Lib.hid hb;go_upto_region 14 with fail
     go_region;go_wp2_with fail;go_ret2;exact ⟨gg,by rw [← hy.out,nextV_no E hb.out];rfl⟩
theorem wpList_copyS {w:World} {ops:Array Oper} {rest:List Oper} {o:Oper} {a:Act} {Q:Exit→Act→World→Prop} (hgd:o.guard = none) (d s:Operand)
 (ho:o.op = .call { callee:=.builtin .copy,args:=#[d,s],argTypes:=#[91,91] }) (g off dLen dCap:Nat) (sa:Option Addr) (sLen sCap:Nat) (hd:a.eval d = .slice (some ⟨g,off,none⟩) dLen dCap) (hs:a.eval s = .slice sa sLen sCap)
 (cur F:List UInt8) (t:TypeId) (hg:Blk w g (secC cur) t) (hB:BytesAt w sa F) (hn:F.length = sLen) (hfit:off + F.length≤cur.length) (hdl:F.length≤dLen)
 (h:∀ w',Blk w' g (secC (cur.take off ++ (F ++ cur.drop (off + F.length)))) t→GrX [g] w w'→wpList Tryz.prog ops Q rest (a.put o.dst (.int .i64 (F.length:Int))) w'):wpList Tryz.prog ops Q (o :: rest) a w:=by
 cases F with
 | nil =>
  refine wpList_copy_nothing hgd d s _ _ ho 5 Tryz.underlying91 (by kernel_rfl) _ sa dLen dCap sLen sCap hd hs (by rw [← hn];simp) ?_;refine h w ?_ (GrX.refl _ _);simpa using hg
 | cons f F =>
  obtain ⟨sb,so,rfl,-,-⟩:=hB 0 f rfl;obtain ⟨cs,hcs⟩:∃ cs,cs = (f :: F).flatMap byteC:=⟨_,rfl⟩
  have hcl:cs.length = (f :: F).length:=by rw [hcs,flat_len byteC_len,Nat.mul_one]
  have hcat:((secC cur).toList.take off ++ (cs ++ (secC cur).toList.drop (off + cs.length))).toArray = secC (cur.take off ++ ((f :: F) ++ cur.drop (off + (f :: F).length))):=by
   show ((cur.flatMap byteC).take off ++ (cs ++ (cur.flatMap byteC).drop (off + cs.length))).toArray = ((cur.take off ++ ((f :: F) ++ cur.drop (off + (f :: F).length))).flatMap byteC).toArray;rw [List.flatMap_append,List.flatMap_append,hcl,← hcs];congr 2
   ·have:=drop_flat off cur;have h2:=List.take_append_drop off (cur.flatMap byteC);have h3:(cur.take off).flatMap byteC ++ (cur.drop off).flatMap byteC = cur.flatMap byteC:=by rw [← List.flatMap_append,List.take_append_drop]
    rw [this] at h2;exact List.append_cancel_right (h2.trans h3.symm)
   ·congr 1;exact drop_flat _ _
  refine wpList_copy_own hgd d s _ _ ho 5 Tryz.underlying91 (by kernel_rfl) g off dLen dCap ⟨sb,so,none⟩ sLen sCap hd hs (secC cur) t hg cs ?_ ?_ ?_ ?_ ?_
  ·rw [hcl,hn];exact (Nat.min_eq_left (by omega)).symm
  ·intro j v hj;rw [Addr.add_mid];have hjl:j < (f :: F).length:=by rw [← hcl];exact get_lt hj
   obtain ⟨x,hx⟩:=get_some (f :: F) j hjl;have h1:=flat_get byteC_len (f :: F) j x 0 _ hx rfl;rw [Nat.mul_one,Nat.add_zero,← hcs,hj] at h1;rw [Option.some.inj h1];exact (hB.at' hx).2
  ·rw [hcl,secC_size];exact hfit
  ·intro v hv;rw [hcs] at hv;obtain ⟨x,_,hx⟩:=List.mem_flatMap.1 hv;exact byteC_one x v hx
  ·rw [hcat,hcl];exact h _ (hg.row _) ((GrX.refl _ _).row (.inl (by simp)) _)
theorem pad_splice {F:List UInt8} (h:F.length≤64):zeroS.take 0 ++ (F ++ zeroS.drop (0 + F.length)) = pad F:=by
 unfold pad;rw [List.take_zero,List.nil_append,Nat.zero_add,List.take_append,List.take_of_length_le h];simp
theorem Tryz.infoA64:((Tryz.prog.info? 143).map fun i => (i.zero,i.size,i.bytes)) = some (some (.agg (secC zeroS)),64,64):=by kernel_rfl
theorem zero64 (w:World):(zeroValue 143).run Tryz.prog w = .ok (.agg (secC zeroS)) w:=by
 obtain ⟨i5,hi5,hz0,hz1,hz2⟩:=info_parts Tryz.infoA64;simp [zeroValue,typeInfo,hi5,hz0]
theorem GrX.join {S T:List Nat} {a b c:World} (h:GrX S a b) (g:GrX T b c) (hT:∀ x,x ∈ T→x ∈ S ∨ a.heap.size≤x):GrX S a c :=
 ⟨g.os.trans h.os,g.tape.trans h.tape,g.output.trans h.output,Nat.le_trans h.size g.size,fun k hk hn => (g.block k (Nat.lt_of_lt_of_le hk h.size) (fun hx => by rcases hT k hx with h1 | h1;exact hn h1;omega)).trans (h.block k hk hn)⟩
theorem DskP.pre {db:Nat} {d:DskV} {M M':DskM} {w0 w w':World} (g:Gr w0 w) (h:DskP db d M M' w w'):DskP db d M M' w0 w' :=
 ⟨h.1,h.2.1,(g.x _).trans h.2.2.1,fun b hb => (h.2.2.2 b hb).imp id (fun h => Nat.le_trans g.size h)⟩
theorem DskP.trans {db:Nat} {d1 d2:DskV} {M M1 M2:DskM} {w w1 w2:World} (h1:DskP db d1 M M1 w w1) (h2:DskP db d2 M1 M2 w1 w2):DskP db d2 M M2 w w2 :=
 ⟨h2.1,h2.2.1,h1.2.2.1.join h2.2.2.1 h1.2.2.2,fun b hb => by
  rcases h2.2.2.2 b hb with h | h
  ·exact h1.2.2.2 b h
  ·exact .inr (Nat.le_trans h1.2.2.1.size h)⟩
def claimD (d:DskV) (e:Nat):DskV:=(d.write (d.n - 2 + e % 2) (pad (frameB (numB e)))).flush
set_option maxRecDepth 100000 in
set_option maxHeartbeats 6400000 in
theorem claim_any {G:List Nat} {E:Nat→Addr} (w:World) (hE:EAt G E w) (i4:0 ∈ G) (i5:1 ∈ G) {db:Nat} {M:DskM} (h:DskAt w db M) (hl:M.d.lost = false) (hC:M.d.C.length≤900000) (hm:M.m + M.d.C.length≤900000000) (hn:4≤M.d.n) (e:Nat) (he:e≤1099511627776) :
 Calls Tryz.prog 78 #[.pointer (some ⟨db,0,none⟩),.int .i64 e] w fun r w' => ∃ M',r = .returned .nilIface∧DskP db (claimD M.d e) M M' w w'∧M'.m≤M.m + (M.d.C.length + 1):=by
 have hnw:=newWriter_any w;have hl6:=numB_6 he;obtain ⟨F,hF⟩:∃ F,F = frameB (numB e):=⟨_,rfl⟩
 have hFl:F.length≤14:=by rw [hF,frameB_len];omega
 have hn1:=h.ok.n1;obtain ⟨zc,hzc⟩:∃ zc,zc = secC zeroS:=⟨_,rfl⟩
 have hz:=zero64;rw [← hzc] at hz;replace hzc:=Lib.hid hzc;replace hnw:=Lib.hid hnw;replace h:=Lib.hid h;go_enter Tryz.func78,Tryz.ntmps78;go_wp2_with fail;refine hnw.out.mono ?_;rintro q w1 ⟨rfl,hW1⟩;have m1:=num_any w w1 w.heap.size _ ([]:List UInt8) e hW1 (by simp) (by omega);replace hW1:=Lib.hid hW1;replace m1:=Lib.hid m1;go_wp2_with fail;refine m1.out.mono ?_;rintro q w2 ⟨rfl,hK2⟩;have hW2:=hK2.at;clear hK2;rw [List.nil_append] at hW2;have m2:=done_any w w2 w.heap.size _ (numB e) hW2 (by omega);have g2:=hW2.world;replace hW2:=Lib.hid hW2;replace m2:=Lib.hid m2;go_wp2_with fail;refine m2.out.mono ?_;rintro q w3 ⟨a3,c3,rfl,h3⟩;have m3:=frame_any w3 a3 c3 (numB e) h3.2.1 h3.2.2.1 (by omega);rw [← hF] at m3;have g3:=g2.trans h3.2.2.2.2;replace h3:=Lib.hid h3;replace m3:=Lib.hid m3;go_wp2_with fail;refine m3.out.mono ?_;rintro q w4 ⟨a4,c4,rfl,h4⟩;have g4:=g3.trans h4.2.2.2.2;obtain ⟨w5,hw5⟩:∃ w5,w5 = w4.alloc (.cells zc 143):=⟨_,rfl⟩
 have g45:Gr w4 w5:=by rw [hw5];exact (Gr.refl _).alloc _
 obtain ⟨nb,hnb⟩:∃ nb,nb = w4.heap.size:=⟨_,rfl⟩
 have hb5:Blk w5 nb (secC zeroS) 143:=by rw [hw5,hnb,← hzc.out];exact Blk.new _ _ _
 have hB5:=h4.2.1.gr g45;have hF64:F.length≤64:=by omega
 have hF0:0 + F.length≤zeroS.length:=by show 0 + F.length≤64;omega
 obtain ⟨fl,hfl⟩:∃ fl,fl = F.length:=⟨_,rfl⟩
 rw [← hfl] at hFl ⊢;replace hb5:=Lib.hid hb5;replace hB5:=Lib.hid hB5;replace h4:=Lib.hid h4;replace hw5:=Lib.hid hw5;replace hfl:=Lib.hid hfl;replace hF:=Lib.hid hF;have hbs:nb ∉ M.own db:=fun hm => by have:=h.out.lt nb hm;have:=g4.size;have:=hnb;omega
 replace hnb:=Lib.hid hnb;go_upto_region 10 with fail
 rw [← hw5.out,← hnb.out];go_upto_region 11 with ((with_reducible show wpList _ _ _ _ _ _);(refine wpList_copyS rfl (.tmp 31) (.tmp 32) rfl nb 0 64 64 a4 fl c4 rfl rfl zeroS F 143 hb5.out hB5.out hfl.out.symm hF0 hF64 ?_;intro w6 hb6 gx6;rw [pad_splice hF64] at hb6;replace hb6:=Lib.hid hb6;replace gx6:=Lib.hid gx6))
 have g06:Gr w w6:=GrX.all (g4.trans g45) gx6.out (fun x hx => by simp at hx;have:=hnb.out;have:=g4.size;omega);have hD6:=h.out.gr g06;have gd:Gr w6 w6.drew:=(Gr.refl _).drew;have hse:=dsectors_any w6.drew (hD6.gr gd);have hidx:M.d.n - 2 + e % 2 < M.d.n:=by omega
 have hwr:=dwrite_yes w6.drew ((hE.gr g06).gr gd) i4 i5 (hD6.gr gd) (M.d.n - 2 + e % 2) hidx hl (by omega) nb 0 64 (pad F) (bytes_row (hb6.out.gr gd)) (pad_len F) hbs;rw [pad_len,Int.natCast_add,Int.natCast_sub (by omega)] at hwr;replace hwr:=Lib.hid hwr;replace hD6:=Lib.hid hD6;replace hbs:=Lib.hid hbs;replace g06:=Lib.hid g06;obtain ⟨N,hN⟩:∃ N,N = M.d.n:=⟨_,rfl⟩
 rw [← hN] at hse hn1 hn hidx;have hidx2:IntKind.i64.wrap (IntKind.i64.wrap ((N:Int) - 2) + (e:Int).tmod 2) = ((M.d.n:Nat):Int) - ((2:Nat):Int) + ((e % 2:Nat):Int):=by
  rw [Int.tmod_eq_emod_of_nonneg (by omega),wraps_i64 ((N:Int) - 2) (by omega) (by omega),wraps_i64 _ (by omega) (by omega),hN];omega
 replace hN:=Lib.hid hN;replace hse:=Lib.hid hse;replace hidx2:=Lib.hid hidx2;go_region_held3 (fun _ => True) (trivial)
  (first
   | (go_at_call 114;(with_reducible refine hse.out.mono ?_);rintro e w7 ⟨rfl,hw7⟩;subst w7)
   | (go_at_call 120;rw [hidx2.out];(with_reducible refine hwr.out.mono ?_);rintro e w8 ⟨M1,rfl,hP1,hm1⟩;replace hP1:=Lib.hid hP1;replace hm1:=Lib.hid hm1)
   | fail)
 have hC1:M1.d.C.length = M.d.C.length + 1:=by rw [hP1.out.1];show (M.d.C ++ _).length = _;simp
 have hl1:M1.d.lost = false:=by rw [hP1.out.1];exact hl
 have hfl1:=dflush_any w8 hP1.out.2.1 hl1 (by omega) (by have:=hm1.out;omega);replace hfl1:=Lib.hid hfl1;go_wp2_with fail;refine hfl1.out.mono ?_;rintro q w9 ⟨M2,rfl,hP2,hm2⟩;replace hP2:=Lib.hid hP2;go_wp2_with fail;go_ret;refine ⟨M2,rfl,?_,by have:=hm1.out;omega⟩;have hP:=(hP1.out.pre (g06.out.trans gd)).trans hP2.out;unfold claimD;rw [← hF.out,← hP1.out.1];exact hP
end Go.Proofs.YteigofaccjaobaaGreatDoor
