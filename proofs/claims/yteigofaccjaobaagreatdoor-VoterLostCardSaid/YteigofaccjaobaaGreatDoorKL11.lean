/- wal.area.write where the record fits. Printed by gen_i29.py. -/
import Derived.Test.YteigofaccjaobaaGreatDoorKL10
namespace Go.Proofs.YteigofaccjaobaaGreatDoor
open Go.RowKit
theorem own_apart {w:World} {B:Nat} {e:TypeId} {k:Nat} {v:Value} {n:Nat} {xs:List Value} {db:Nat} {M:DskM} (ho:w.ownsRow B e k v n xs) (h:DskAt w db M) (he1:e ≠ 89) (he2:e ≠ 146):∀ g,v.ownBlock = some g→g ∉ M.own db:=by
 intro g hg hm;rcases List.mem_cons.1 hm with rfl | hm
 ·exact owns_blk ho h.b he1 hg
 rcases List.mem_cons.1 hm with rfl | hm
 ·obtain ⟨es,clock,hb,_⟩:=h.s;rcases ho.2 with ⟨h1,_⟩ | ⟨g1,c1,u1,h1,_,h3,_⟩
  ·rw [h1] at hg;cases hg
  ·rw [h1] at hg;cases hg
   rw [hb] at h3;cases h3
 ·cases hc:M.ca with
  | none => rw [hc] at hm;cases hm
  | some q =>
   rw [hc] at hm;have hq:g = q.block:=List.mem_singleton.1 (show g ∈ [q.block] from hm);have h2:=h.c;rw [hc] at h2;exact owns_apart h2 ho (Ne.symm he2) (g:=g) (by rw [hq];rfl) hg
theorem RecsAt.gr' {α:Type} {k:Nat} {enc:α→List Value} {w w':World} {a:Option Addr} {l:List α} (h:RecsAt k enc w a l) (g:Gr w w'):RecsAt k enc w' a l:=fun i s hi => by
 obtain ⟨b,off,ha,hb,hc⟩:=h i s hi;exact ⟨b,off,ha,Nat.lt_of_lt_of_le hb g.size,fun j u hu => by rw [g.cells.1 _ _ hb];exact hc j u hu⟩
structure WrtP (W:World) (db ab o:Nat) (cs:Array Value) (t:TypeId) (M:DskM) (f u:Nat) (ra:Option Addr) (R:List RcM) (r:Rc) (w w':World):Prop where
 x:∃ (M':DskM) (ra':Option Addr) (rc':Nat) (a':Option Addr) (c':Nat),DskAt w' db M'∧M'.d = putD M.d (f + u) (frR r)∧M'.m = M.m∧Blk w' ab ((cs.setIfInBounds (o + 2) (.int .i64 ((u + costR r:Nat):Int))).setIfInBounds (o + 3) (.slice ra' (R.length + 1) rc')) t∧RowAt W w' ra' rc' (R ++ [⟨r,a',c'⟩])∧(∀ b ∈ M'.own db,b ∈ M.own db ∨ w.heap.size≤b)∧(∀ x,ra' = some x→(∃ q,ra = some q∧x.block = q.block) ∨ w.heap.size≤x.block)
 g:GrX (ab :: (M.own db ++ (ra.map (·.block)).toList)) w w'
set_option maxRecDepth 100000 in
set_option maxHeartbeats 6400000 in
theorem write_yes {G:List Nat} {E:Nat→Addr} (W w:World) (hE:EAt G E W) (gW:Gr W w) (i4:0 ∈ G) (i5:1 ∈ G) {db:Nat} {M:DskM} (h:DskAt w db M) (hl:M.d.lost = false) (hC:M.d.C.length≤900000)
 (hMW:∀ b ∈ M.own db,W.heap.size≤b) (ab o:Nat) (cs:Array Value) (t:TypeId) (f n u rc:Nat) (ra:Option Addr) (R:List RcM) (hA:Blk w ab cs t) (k0:cs[o]? = some (.int .i64 f)) (k1:cs[o + 1]? = some (.int .i64 n)) (k2:cs[o + 2]? = some (.int .i64 u)) (k3:cs[o + 3]? = some (.slice ra R.length rc)) (hab:ab ∉ M.own db) (ht1:167 ≠ t) (ht2:5 ≠ t) (hR:RowAt W w ra rc R) (hRl:R.length≤1000)
 (r:Rc) (a:Option Addr) (c:Nat) (hr:r.g≤1099511627776∧r.e≤1099511627776∧r.i≤1099511627776) (hd:BytesAt w a r.d) (hc:a = none→c = 0) (hx:∀ x,a = some x→x.block < w.heap.size) (hxM:∀ x,a = some x→x.block ∉ M.own db) (hdl:r.d.length≤32000) (hfit:u + costR r≤n) (hn:f + n≤M.d.n) :
 Calls Tryz.prog 79 #[.pointer (some ⟨ab,o,none⟩),.pointer (some ⟨db,0,none⟩),rcV r a c] w fun e w' => e = .returned .nilIface∧WrtP W db ab o cs t M f u ra R r w w':=by
 have hn1:=h.ok.n1;have hlo:=h.lt;have hrM:=fun x (hh:ra = some x) => own_apart hR.o h (by decide) (by decide) x.block (own_blk hh)
 have hdM:=fun y hy x (hh:(y:RcM).a = some x) => own_apart (hR.d y hy).1 h (by decide) (by decide) x.block (own_blk hh)
 obtain ⟨nr,hnr⟩:∃ nr,nr = w.heap.size:=⟨_,rfl⟩
 obtain ⟨wa,hwa⟩:∃ wa,wa = w.alloc (.cells (rcC r a c).toArray 167):=⟨_,rfl⟩
 have ga:Gr w wa:=by rw [hwa];exact (Gr.refl w).alloc _
 have hN0:Blk wa nr (rcC r a c).toArray 167:=by rw [hwa,hnr];exact Blk.new _ _ _
 have hlos:=dlost_any wa (h.gr ga);rw [hl] at hlos;have hby:=bytes_yes wa r ⟨by omega,by omega,by omega⟩ a c (hd.gr ga) hc (fun x hh => Nat.lt_of_lt_of_le (hx x hh) ga.size) hdl;have hfl1:(frR r).length≤32100:=by
  unfold frR;rw [frameB_len];have:=recB_len (r:=r) ⟨by omega,by omega,by omega⟩ (by omega);omega
 have hfl0:1≤(frR r).length:=by unfold frR;rw [frameB_len];omega
 obtain ⟨fr,hfr⟩:∃ fr,fr = frR r:=⟨_,rfl⟩
 obtain ⟨fl,hfl⟩:∃ fl,fl = fr.length:=⟨_,rfl⟩
 have hcr:costR r = costN fl:=by unfold costR;rw [hfl,hfr]
 rw [← hfr] at hby hfl1 hfl0;rw [← hfl] at hby hfl1 hfl0;rw [hcr] at hfit;obtain ⟨N,hN⟩:∃ N,N = costN fl:=⟨_,rfl⟩
 rw [← hN] at hfit;have hN1:1≤N:=by rw [hN];exact costN_pos hfl0
 have hN2:∀ k,k < N→63 * k < fl:=fun k hk => costN_lt.1 (by rw [← hN];exact hk)
 obtain ⟨gg,e,ix,d⟩:=r;dsimp only at hr hd hdl;have b0:=hN0.cell (i:=0) (v:=.int .i64 gg) rfl;have b1:=hN0.cell (i:=1) (v:=.int .i64 e) rfl;have b2:=hN0.cell (i:=2) (v:=.int .i64 ix) rfl;have b3:=hN0.cell (i:=3) (v:=.slice a d.length c) rfl;have zn:=hN0.lt;obtain ⟨dl,hdl2⟩:∃ dl,dl = d.length:=⟨_,rfl⟩
 rw [← hdl2] at hdl b3;have hby2:Calls Tryz.prog 117 #[.agg #[.int .i64 gg,.int .i64 e,.int .i64 ix,.slice a dl c]] wa fun q w' => ∃ a' c',q = .returned (.tuple #[.slice a' fl c',.nilIface])∧Own wa w' a' c' fr:=by rw [hdl2];exact hby
 clear hby;have habn:ab ≠ nr:=by have:=hA.lt;omega
 have habl:=hA.lt;replace hlo:=Lib.hid hlo;replace hnr:=Lib.hid hnr;replace hwa:=Lib.hid hwa;replace hN0:=Lib.hid hN0;replace hlos:=Lib.hid hlos;replace hby2:=Lib.hid hby2;replace hfr:=Lib.hid hfr;replace hfl:=Lib.hid hfl;replace hcr:=Lib.hid hcr;replace hN:=Lib.hid hN;replace hN2:=Lib.hid hN2;replace h:=Lib.hid h;replace hl:=Lib.hid hl;replace hA:=Lib.hid hA;replace hR:=Lib.hid hR;replace hd:=Lib.hid hd;replace hc:=Lib.hid hc;replace hx:=Lib.hid hx;replace hxM:=Lib.hid hxM;replace hrM:=Lib.hid hrM;replace hdM:=Lib.hid hdM;replace hab:=Lib.hid hab;replace hdl2:=Lib.hid hdl2;replace hE:=Lib.hid hE;replace hMW:=Lib.hid hMW;replace k0:=Lib.hid k0;replace k1:=Lib.hid k1;replace k2:=Lib.hid k2;replace k3:=Lib.hid k3;go_enter Tryz.func79,Tryz.ntmps79;go_upto_region 1 with fail
 rw [← hwa.out,← hnr.out];go_wp2_with fail;refine hlos.out.mono ?_;rintro q w1 ⟨rfl,hw1⟩;subst w1;go_wp2_with fail;refine hby2.out.mono ?_;rintro q w1 ⟨a1,c1,rfl,h1⟩;have g1:=h1.2.2.2.2;have g01:=ga.trans g1;have hcap1:=h1.x.cap;obtain ⟨fb,fo,rfl⟩:∃ fb fo,a1 = some ⟨fb,fo,none⟩:=by
  obtain ⟨x,hx0⟩:=get_some fr 0 (by rw [← hfl.out];omega);obtain ⟨b',o',ha,-⟩:=h1.2.1 0 x hx0;exact ⟨b',o',ha⟩
 have hfbl:=h1.lt rfl;have hfbw:=h1.2.2.2.1 _ rfl;have hF1:=h1.2.1;have hA1:=hA.out.gr g01;have hNb1:=hN0.out.gr g1;have c0:=GrW.cell (hA1.cell k0.out);have c1':=GrW.cell (hA1.cell k1.out);have c2:=GrW.cell (hA1.cell k2.out);have cr:=GrW.cell (hNb1.cell (i:=0) (v:=.int .i64 gg) rfl);have za1:=hA1.lt;have zn1:=hNb1.lt;have hcs:=fun w1 => cost_same w1 fl (by omega)
 rw [← hN.out] at hcs;have e1:((u:Int) + N)≤n:=by omega
 have e2:decide ((n:Int) < (u:Int) + N) = false:=decide_eq_false (by omega);have e3:decide ((1099511627776:Int) < gg) = false:=decide_eq_false (by omega);have e4:¬ (n:Int) < (u:Int) + N:=by omega
 replace hcs:=Lib.hid hcs;replace h1:=Lib.hid h1;replace hF1:=Lib.hid hF1;replace hA1:=Lib.hid hA1;replace hNb1:=Lib.hid hNb1;rw [← hfl.out] at hcap1;go_upto_region 6 with fail
 refine wp_region_grows (by kernel_rfl) (by kernel_rfl) ?_;repeat (any_goals (first | go_big_quiet_step (first | (go_at_call 118;exact Calls.grows_same (hcs.out _)) | fail) | quiet_step (first | (go_at_call 118;exact Calls.grows_same (hcs.out _)) | fail)))
 refine wpQuiet_nil ?_;intro wz hwq;have gz:=GrW.of hwq;clear hwq;obtain ⟨cz,fz,sz⟩:=gz.cells;try simp only [size_drewN] at cz fz sz
 try simp only [World.size_alloc] at cz fz sz
 try simp only [World.size_drew] at cz fz sz
 try simp only [World.size_setCell] at cz fz sz
 have hck:=chunk_any wz fb fo fl c1;have hBz:=hF1.out.gr gz;replace hck:=Lib.hid hck;replace hBz:=Lib.hid hBz;go_wp2_with fail;refine hck.out.mono ?_;rintro q w2 ⟨B1,B2,rfl,hl1,hl2,hc1,hc2,g2⟩;have hco:=collect_any w2 B1 B2 fb fo fl c1 (by omega) hcap1 hl1 hl2 hc1 hc2;rw [← hN.out] at hco;replace hco:=Lib.hid hco;clear hl1 hl2 hc1 hc2;go_wp2_with fail;refine hco.out.mono ?_;rintro q w3 ⟨pa,pc,rfl,hrp,hpb,g3⟩;have g13:Gr w1 w3:=(gz.trans g2).trans g3;have g03:=g01.trans g13;have hD3:=h.out.gr g03;have hA3:=hA1.out.gr g13;have hNb3:=hNb1.out.gr g13;have hF3:=hF1.out.gr g13;have hR3:=hR.out.gr g03;have hpo:∃ pb po,pa = some ⟨pb,po,none⟩:=by
  obtain ⟨b',o',ha,-⟩:=hrp 0 0 (by rw [List.getElem?_range hN1]);exact ⟨b',o',ha⟩
 obtain ⟨pb,po,rfl⟩:=hpo;have hpbl:=RecsAt.lt hrp (x:=⟨pb,po,none⟩) rfl (by intro e0;have:=congrArg List.length e0;simp at this;omega);have hpw:=hpb _ rfl;have hs1:=g01.size;have hs2:=(gz.trans g2).size;have hs3:=g13.size;have hw3w:w.heap.size≤w3.heap.size:=g03.size;have hnM:∀ b,w.heap.size≤b→b ∉ M.own db:=fun b hb hm => by have:=hlo.out b hm;omega
 have hpn:pb ∉ M.own db:=hnM pb (by dsimp only at hpw;omega);have hnrM:nr ∉ M.own db:=hnM nr (by have:=hnr.out;omega);have hfbM:fb ∉ M.own db:=hnM fb (by have:=ga.size;omega);have hnr3:=hNb3.lt;have hab3:=hA3.lt;clear c0 c1' c2 cr;replace hrp:=Lib.hid hrp;replace hpb:=Lib.hid hpb;replace hD3:=Lib.hid hD3;replace hA3:=Lib.hid hA3;replace hNb3:=Lib.hid hNb3;replace hF3:=Lib.hid hF3;replace hR3:=Lib.hid hR3;replace hnM:=Lib.hid hnM;replace hpn:=Lib.hid hpn;replace hnrM:=Lib.hid hnrM;replace hfbM:=Lib.hid hfbM;have gW3:=gW.trans g03;obtain ⟨zc,hzc⟩:∃ zc,zc = secC zeroS:=⟨_,rfl⟩
 have hz:=zero64;rw [← hzc] at hz;replace hzc:=Lib.hid hzc;go_wp2_with fail;go_loopw [47] (fun iv wr => ∃ (k:Nat) (Mk:DskM),k≤N∧iv = .int .i64 k∧Hid (Mk.d = putK M.d (f + u) fr k∧Mk.m = M.m∧DskAt wr db Mk∧GrX (M.own db) w3 wr∧∀ b ∈ Mk.own db,b ∈ M.own db ∨ w3.heap.size≤b)) (fun iv _ => N - (intOf iv).toNat);case atStart => exact ⟨0,M,Nat.zero_le _,rfl,Lib.hid ⟨(putK_zero _ _ _).symm,rfl,hD3.out,GrX.refl _ _,fun b hb => .inl hb⟩⟩
 case round =>
  obtain ⟨k,Mk,hk,rfl,hI⟩:=hrel;obtain ⟨i1,i2,i3,i4',i5'⟩:=hI.out;clear hI;obtain ⟨wo,rfl⟩:∃ wo:World,wo = wr:=⟨wr,rfl⟩
  have hso:=i4'.size;by_cases hlt:k < N
  ·rcases Nat.eq_zero_or_pos k with hk0 | hkp
   ·subst hk0;have hk63:=hN2.out 0 hlt;obtain ⟨F,hF⟩:∃ F,F = (fr.drop (63 * 0)).take 63:=⟨_,rfl⟩
    have hmF:min 63 (fl - 63 * 0) = F.length:=by rw [hF,List.length_take,List.length_drop,← hfl.out]
    have hF63:F.length≤63:=by rw [hF,List.length_take];omega
    have hcp:wo.cell? ⟨pb,po,none⟩ = some (chV fb fo fl 0):=by
     obtain ⟨b',o',ha,-,hcl⟩:=hrp.out 0 0 (by rw [List.getElem?_range hlt]);cases ha
     have h2:=hcl 0 _ rfl;rw [Nat.mul_one,Nat.add_zero] at h2;rw [i4'.cell hpbl hpn.out];exact h2
    have hFo:BytesAt wo (some ⟨fb,fo,none⟩) fr:=hF3.out.grx i4' (fun y hy _ => by cases hy;exact hfbM.out);have hP0:BytesAt wo (some ⟨fb,fo + 63 * 0,none⟩) F:=by rw [hF];exact (hFo.drop (63 * 0)).take 63
    unfold chV at hcp;rw [hmF] at hcp;obtain ⟨m,hm⟩:∃ m,m = F.length:=⟨_,rfl⟩
    rw [← hm] at hcp hmF;obtain ⟨fq,hfq⟩:∃ fq,fq = fo + 63 * 0:=⟨_,rfl⟩
    rw [← hfq] at hcp hP0;obtain ⟨w4,hw4⟩:∃ w4,w4 = wo.alloc (.cells zc 143):=⟨_,rfl⟩
    have g4:Gr wo w4:=by rw [hw4];exact (Gr.refl _).alloc _
    obtain ⟨nb,hnb⟩:∃ nb,nb = wo.heap.size:=⟨_,rfl⟩
    have hb4:Blk w4 nb (secC zeroS) 143:=by rw [hw4,hnb,← hzc.out];exact Blk.new _ _ _
    have hP4:=hP0.gr g4;have hA4:=(hA3.out.grx i4' hab.out).gr g4;have hsec:secO 0 fr = 1 :: (F ++ List.replicate (63 - F.length) 0):=by
     unfold secO;rw [← hF,if_pos rfl]
    have hzM:nb ∉ Mk.own db:=fun hx => by have:=i3.lt nb hx;omega
    have hkL:Mk.d.lost = false:=by rw [i1];exact hl.out
    have hkC:Mk.d.C.length≤1000000:=by rw [i1];show (M.d.C ++ putC _ _ _).length≤_;rw [List.length_append,putC_len];omega
    have hkn:f + u + 0 < Mk.d.n:=by rw [i1];show f + u + 0 < M.d.n;omega
    have hfbn:fb ≠ nb:=by omega
    have habn4:ab ≠ nb:=by omega
    have zb4:=hb4.lt;have fb4:=hb4.free 0;have cb4:=hb4.cell (i:=0) (v:=.int .u8 0) rfl;have hkb:decide ((0:Int) < N) = true:=decide_eq_true (by omega);have hkb2:(0:Int) < N:=by omega
    have hkb3:decide (0 < N) = true:=decide_eq_true hlt;have hF64:1 + F.length≤((1:UInt8) :: List.replicate 63 0).length:=by rw [List.length_cons,List.length_replicate];omega
    have hidx:IntKind.i64.wrap (IntKind.i64.wrap ((f:Int) + u)) = ((f + u + 0:Nat):Int):=by
     rw [wraps_i64 ((f:Int) + u) (by omega) (by omega),wraps_i64 _ (by omega) (by omega)];omega
    replace hF:=Lib.hid hF;replace hmF:=Lib.hid hmF;replace hFo:=Lib.hid hFo;replace hP0:=Lib.hid hP0;replace hm:=Lib.hid hm;replace hfq:=Lib.hid hfq;replace hw4:=Lib.hid hw4;replace hnb:=Lib.hid hnb;replace hb4:=Lib.hid hb4;replace hP4:=Lib.hid hP4;replace hA4:=Lib.hid hA4;replace hsec:=Lib.hid hsec;replace hzM:=Lib.hid hzM;replace hkL:=Lib.hid hkL;replace hkC:=Lib.hid hkC;replace hkn:=Lib.hid hkn;replace hidx:=Lib.hid hidx;replace i1:=Lib.hid i1;replace i2:=Lib.hid i2;replace i3:=Lib.hid i3;replace i4':=Lib.hid i4';replace i5':=Lib.hid i5';have hbit:(secC zeroS).setIfInBounds 0 (.int .u8 1) = secC (1 :: List.replicate 63 0):=by rfl
    obtain ⟨w5,hw5⟩:∃ w5,w5 = w4.setCell ⟨nb,0,none⟩ (.int .u8 1):=⟨_,rfl⟩
    have hb5:Blk w5 nb (secC (1 :: List.replicate 63 0)) 143:=by rw [hw5,← hbit];exact hb4.out.set 0 _
    have gx5:GrX [nb] w4 w5:=by rw [hw5];exact (GrX.refl _ _).set (.inl (by simp)) _
    have hP5:=hP4.out.grx gx5 (fun y hy _ => by cases hy;simpa using hfbn);have hA5:=hA4.out.grx gx5 (by simpa using habn4);have g5:Gr wo w5:=GrX.all g4 gx5 (fun x hx => by simp at hx;have:=hnb.out;omega);replace hbit:=Lib.hid hbit;replace hw5:=Lib.hid hw5;replace hb5:=Lib.hid hb5;replace hP5:=Lib.hid hP5;replace hA5:=Lib.hid hA5;clear hmF hkb3;go_upto_region 12 with fail
    rw [← hw4.out,← hnb.out];go_upto_region 14 with fail
    rw [← hw5.out];go_upto_region 15 with ((with_reducible show wpList _ _ _ _ _ _);(refine wpList_copyS rfl (.tmp 55) (.tmp 56) rfl nb 1 63 63 (some ⟨fb,fq,none⟩) m m rfl rfl (1 :: List.replicate 63 0) F 143 hb5.out hP5.out hm.out.symm hF64 hF63 ?_;intro w6 hb6 gx6;rw [secO_splice] at hb6;replace hb6:=Lib.hid hb6;replace gx6:=Lib.hid gx6))
    rw [← hsec.out] at hb6;have g6:Gr wo w6:=GrX.all g5 gx6.out (fun x hx => by simp at hx;have:=hnb.out;omega);have g6d:Gr wo w6.drew:=g6.drew;have hA6:=hA5.out.grx (gx6.out.drew) (by simpa using habn4);have hE6:EAt G E w6.drew:=hE.out.gr ((GrX.all gW3 i4'.out hMW.out).trans g6d);have hwr:=dwrite_yes w6.drew hE6 i4 i5 (i3.out.gr g6d) (f + u + 0) hkn.out hkL.out hkC.out nb 0 64 (secO 0 fr) (bytes_row (hb6.out.drew)) (secO_len _ _) hzM.out;rw [secO_len] at hwr;have d0:=hA6.cell k0.out;have d2:=hA6.cell k2.out;have zd:=hA6.lt;have g46:GrX (M.own db) w3 w6.drew:=i4'.out.gr g6d;replace hA6:=Lib.hid hA6;replace hwr:=Lib.hid hwr;replace hE6:=Lib.hid hE6;replace g46:=Lib.hid g46;go_region_held3 (fun w' => w'.cell? ⟨ab,o,none⟩ = some (.int .i64 f)∧w'.cell? ⟨ab,o + 2,none⟩ = some (.int .i64 u)) (simp (maxDischargeDepth:=8) [go_sem, *])
     (first
      | (go_at_call 120;rw [hidx.out];(with_reducible refine hwr.out.mono ?_);rintro q w8 ⟨M1,rfl,hP1,hm1⟩;have hgg:=g46.out.join hP1.2.2.1 (fun b hb => by rcases i5'.out b hb with h1 | h1;exact .inl h1;exact .inr h1);have hA8:=hA3.out.grx hgg hab.out;have d3:=hA8.cell k0.out;have d4:=hA8.cell k2.out;replace hP1:=Lib.hid hP1;replace hm1:=Lib.hid hm1;replace hgg:=Lib.hid hgg;replace hA8:=Lib.hid hA8)
      | fail)
    clear d0 d2 d3 d4;go_wp2_with fail;go_roundw;case rel =>
     refine ⟨1,M1,by omega,by go_num,Lib.hid ⟨?_,hm1.out.trans i2.out,hP1.out.2.1,hgg.out,fun b hb => ?_⟩⟩
     ·rw [hP1.out.1,i1.out];exact (putK_succ M.d (f + u) fr 0).symm
     ·rcases hP1.out.2.2.2 b hb with h1 | h1
      ·exact i5'.out b h1
      ·exact .inr (by have:=g46.out.size;omega)
    case measure => simp [intOf];omega
   ·have hk63:=hN2.out k hlt;obtain ⟨F,hF⟩:∃ F,F = (fr.drop (63 * k)).take 63:=⟨_,rfl⟩
    have hmF:min 63 (fl - 63 * k) = F.length:=by rw [hF,List.length_take,List.length_drop,← hfl.out]
    have hF63:F.length≤63:=by rw [hF,List.length_take];omega
    have hcp:wo.cell? ⟨pb,po + k,none⟩ = some (chV fb fo fl k):=by
     obtain ⟨b',o',ha,-,hcl⟩:=hrp.out k k (by rw [List.getElem?_range hlt]);cases ha
     have h2:=hcl 0 _ rfl;rw [Nat.mul_one,Nat.add_zero] at h2;rw [i4'.cell hpbl hpn.out];exact h2
    have hFo:BytesAt wo (some ⟨fb,fo,none⟩) fr:=hF3.out.grx i4' (fun y hy _ => by cases hy;exact hfbM.out);have hP0:BytesAt wo (some ⟨fb,fo + 63 * k,none⟩) F:=by rw [hF];exact (hFo.drop (63 * k)).take 63
    unfold chV at hcp;rw [hmF] at hcp;obtain ⟨m,hm⟩:∃ m,m = F.length:=⟨_,rfl⟩
    rw [← hm] at hcp hmF;obtain ⟨fq,hfq⟩:∃ fq,fq = fo + 63 * k:=⟨_,rfl⟩
    rw [← hfq] at hcp hP0;obtain ⟨w4,hw4⟩:∃ w4,w4 = wo.alloc (.cells zc 143):=⟨_,rfl⟩
    have g4:Gr wo w4:=by rw [hw4];exact (Gr.refl _).alloc _
    obtain ⟨nb,hnb⟩:∃ nb,nb = wo.heap.size:=⟨_,rfl⟩
    have hb4:Blk w4 nb (secC zeroS) 143:=by rw [hw4,hnb,← hzc.out];exact Blk.new _ _ _
    have hP4:=hP0.gr g4;have hA4:=(hA3.out.grx i4' hab.out).gr g4;have hsec:secO k fr = 0 :: (F ++ List.replicate (63 - F.length) 0):=by
     unfold secO;rw [← hF,if_neg (by omega)]
    have hzM:nb ∉ Mk.own db:=fun hx => by have:=i3.lt nb hx;omega
    have hkL:Mk.d.lost = false:=by rw [i1];exact hl.out
    have hkC:Mk.d.C.length≤1000000:=by rw [i1];show (M.d.C ++ putC _ _ _).length≤_;rw [List.length_append,putC_len];omega
    have hkn:f + u + k < Mk.d.n:=by rw [i1];show f + u + k < M.d.n;omega
    have hfbn:fb ≠ nb:=by omega
    have habn4:ab ≠ nb:=by omega
    have zb4:=hb4.lt;have fb4:=hb4.free 0;have cb4:=hb4.cell (i:=0) (v:=.int .u8 0) rfl;have hkb:decide ((k:Int) < N) = true:=decide_eq_true (by omega);have hkb2:(k:Int) < N:=by omega
    have hkb3:decide (k < N) = true:=decide_eq_true hlt;have hF64:1 + F.length≤((0:UInt8) :: List.replicate 63 0).length:=by rw [List.length_cons,List.length_replicate];omega
    have hidx:IntKind.i64.wrap (IntKind.i64.wrap ((f:Int) + u) + (k:Int)) = ((f + u + k:Nat):Int):=by
     rw [wraps_i64 ((f:Int) + u) (by omega) (by omega),wraps_i64 _ (by omega) (by omega)];omega
    have hke:((k:Int) == 0) = false:=beq_eq_false_iff_ne.2 (by omega);replace hF:=Lib.hid hF;replace hmF:=Lib.hid hmF;replace hFo:=Lib.hid hFo;replace hP0:=Lib.hid hP0;replace hm:=Lib.hid hm;replace hfq:=Lib.hid hfq;replace hw4:=Lib.hid hw4;replace hnb:=Lib.hid hnb;replace hb4:=Lib.hid hb4;replace hP4:=Lib.hid hP4;replace hA4:=Lib.hid hA4;replace hsec:=Lib.hid hsec;replace hzM:=Lib.hid hzM;replace hkL:=Lib.hid hkL;replace hkC:=Lib.hid hkC;replace hkn:=Lib.hid hkn;replace hidx:=Lib.hid hidx;replace i1:=Lib.hid i1;replace i2:=Lib.hid i2;replace i3:=Lib.hid i3;replace i4':=Lib.hid i4';replace i5':=Lib.hid i5';have hb5:Blk w4 nb (secC (0 :: List.replicate 63 0)) 143:=hb4.out;have hP5:=hP4.out;have hA5:=hA4.out;have g5:=g4;replace hb5:=Lib.hid hb5;replace hP5:=Lib.hid hP5;replace hA5:=Lib.hid hA5;clear hmF hkb3;go_upto_region 12 with fail
    rw [← hw4.out,← hnb.out];go_upto_region 15 with ((with_reducible show wpList _ _ _ _ _ _);(refine wpList_copyS rfl (.tmp 55) (.tmp 56) rfl nb 1 63 63 (some ⟨fb,fq,none⟩) m m rfl rfl (0 :: List.replicate 63 0) F 143 hb5.out hP5.out hm.out.symm hF64 hF63 ?_;intro w6 hb6 gx6;rw [secO_splice] at hb6;replace hb6:=Lib.hid hb6;replace gx6:=Lib.hid gx6))
    rw [← hsec.out] at hb6;have g6:Gr wo w6:=GrX.all g5 gx6.out (fun x hx => by simp at hx;have:=hnb.out;omega);have g6d:Gr wo w6.drew:=g6.drew;have hA6:=hA5.out.grx (gx6.out.drew) (by simpa using habn4);have hE6:EAt G E w6.drew:=hE.out.gr ((GrX.all gW3 i4'.out hMW.out).trans g6d);have hwr:=dwrite_yes w6.drew hE6 i4 i5 (i3.out.gr g6d) (f + u + k) hkn.out hkL.out hkC.out nb 0 64 (secO k fr) (bytes_row (hb6.out.drew)) (secO_len _ _) hzM.out;rw [secO_len] at hwr;have d0:=hA6.cell k0.out;have d2:=hA6.cell k2.out;have zd:=hA6.lt;have g46:GrX (M.own db) w3 w6.drew:=i4'.out.gr g6d;replace hA6:=Lib.hid hA6;replace hwr:=Lib.hid hwr;replace hE6:=Lib.hid hE6;replace g46:=Lib.hid g46;go_region_held3 (fun w' => w'.cell? ⟨ab,o,none⟩ = some (.int .i64 f)∧w'.cell? ⟨ab,o + 2,none⟩ = some (.int .i64 u)) (simp (maxDischargeDepth:=8) [go_sem, *])
     (first
      | (go_at_call 120;rw [hidx.out];(with_reducible refine hwr.out.mono ?_);rintro q w8 ⟨M1,rfl,hP1,hm1⟩;have hgg:=g46.out.join hP1.2.2.1 (fun b hb => by rcases i5'.out b hb with h1 | h1;exact .inl h1;exact .inr h1);have hA8:=hA3.out.grx hgg hab.out;have d3:=hA8.cell k0.out;have d4:=hA8.cell k2.out;replace hP1:=Lib.hid hP1;replace hm1:=Lib.hid hm1;replace hgg:=Lib.hid hgg;replace hA8:=Lib.hid hA8)
      | fail)
    clear d0 d2 d3 d4;go_wp2_with fail;go_roundw;case rel =>
     refine ⟨k + 1,M1,by omega,by go_num,Lib.hid ⟨?_,hm1.out.trans i2.out,hP1.out.2.1,hgg.out,fun b hb => ?_⟩⟩
     ·rw [hP1.out.1,i1.out];exact (putK_succ M.d (f + u) fr k).symm
     ·rcases hP1.out.2.2.2 b hb with h1 | h1
      ·exact i5'.out b h1
      ·exact .inr (by have:=g46.out.size;omega)
    case measure => simp [intOf];omega
  ·obtain rfl:k = N:=by omega
   have hkb:decide ((k:Int) < k) = false:=decide_eq_false (by omega);have hb3:=hNb3.out.grx i4' hnrM.out;have hdo:=(hd.out.gr g03).grx i4' (fun y hy _ => hxM.out y hy);have hRo:=hR3.out.grx i4' hrM.out hdM.out;have hAo:=hA3.out.grx i4' hab.out;have bb3:wo.cell? ⟨nr,3,none⟩ = some (.slice a dl c):=by rw [hdl2.out];exact hb3.cell rfl
   have zno:=hb3.lt;have hcl:Calls Tryz.prog 89 #[.slice a dl c] wo fun q w' => ∃ a' c',q = .returned (.slice a' dl c')∧Own wo w' a' c' d:=by rw [hdl2.out];exact cloneB_any wo a c d hdo hc.out (by rw [← hdl2.out];omega)
   replace hb3:=Lib.hid hb3;replace hdo:=Lib.hid hdo;replace hRo:=Lib.hid hRo;replace hAo:=Lib.hid hAo;replace hcl:=Lib.hid hcl;replace i1:=Lib.hid i1;replace i2:=Lib.hid i2;replace i3:=Lib.hid i3;replace i4':=Lib.hid i4';replace i5':=Lib.hid i5';go_wp2_with fail;refine hcl.out.mono ?_;rintro q w10 ⟨a9,c9,rfl,h9⟩;have g10:=h9.2.2.2.2;have h9o:=h9.x;have hb10:=hb3.out.gr g10;obtain ⟨w11,hw11⟩:∃ w11,w11 = w10.setCell ⟨nr,3,none⟩ (.slice a9 dl c9):=⟨_,rfl⟩
   have hb11:Blk w11 nr #[.int .i64 gg,.int .i64 e,.int .i64 ix,.slice a9 dl c9] 167:=by rw [hw11];exact hb10.set 3 (.slice a9 dl c9)
   have gx11:GrX [nr] w10 w11:=by rw [hw11];exact (GrX.refl _ _).set (.inl (by simp)) _
   have hA11:=(hAo.out.gr g10).grx gx11 (by simpa using habn);have hs10:=g10.size;have hrnr:∀ x,ra = some x→x.block ≠ nr:=fun x hh => by have:=(hR.out.lo x hh).2;have:=hnr.out;omega
   have hdnr:∀ y ∈ R,∀ x,y.a = some x→x.block ≠ nr:=fun y hy x hh => by have:=(hR.out.d y hy).lt hh;have:=hnr.out;omega
   have hR11:=(hRo.out.gr g10).grx gx11 (fun x hh => by simpa using hrnr x hh) (fun y hy x hh => by simpa using hdnr y hy x hh);have hwo:w.heap.size≤wo.heap.size:=by omega
   have h9n:∀ x,a9 = some x→x.block ≠ nr:=fun x hh => by have:=h9o.2.2.2 x hh;omega
   have h911:=h9o.grx gx11 (fun x hh => by simpa using h9n x hh);have hf3:=hb10.free 3;have zn10:=hb10.lt;have cb10:=hb10.cell (i:=3) (v:=.slice a d.length c) rfl;have s0:=hb11.cell (i:=0) (v:=.int .i64 gg) rfl;have s1:=hb11.cell (i:=1) (v:=.int .i64 e) rfl;have s2:=hb11.cell (i:=2) (v:=.int .i64 ix) rfl;have s3:=hb11.cell (i:=3) (v:=.slice a9 dl c9) rfl;have s4:=hA11.cell k2.out;have s5:=hA11.cell k3.out;have sz11:=hb11.lt;have sza:=hA11.lt;replace h9:=Lib.hid h9;replace h9o:=Lib.hid h9o;replace h911:=Lib.hid h911;replace hb10:=Lib.hid hb10;replace hb11:=Lib.hid hb11;replace hw11:=Lib.hid hw11;replace gx11:=Lib.hid gx11;replace hA11:=Lib.hid hA11;replace hR11:=Lib.hid hR11;replace hrnr:=Lib.hid hrnr;replace hdnr:=Lib.hid hdnr;replace h9n:=Lib.hid h9n;go_upto_region 20 with fail
   rw [← hw11.out];clear cb10 hf3;have hT1a:RecsAt 4 rmC (w11.alloc (.cells #[.int .i64 gg,.int .i64 e,.int .i64 ix,.slice a9 d.length c9] 167)) (some ⟨w11.heap.size,0,none⟩) [(⟨⟨gg,e,ix,d⟩,a9,c9⟩:RcM)]:=recs_alloc1 rmC_len w11 rfl [(⟨⟨gg,e,ix,d⟩,a9,c9⟩:RcM)] _ _ rfl;rw [← hdl2.out] at hT1a;obtain ⟨w11a,hw11a⟩:∃ w11a,w11a = w11.alloc (.cells #[.int .i64 gg,.int .i64 e,.int .i64 ix,.slice a9 dl c9] 167):=⟨_,rfl⟩
   rw [← hw11a] at hT1a;have g11a:Gr w11 w11a:=by rw [hw11a];exact (Gr.refl _).alloc _
   obtain ⟨w12,hw12⟩:∃ w12,w12 = w11a.drew:=⟨_,rfl⟩
   have g11b:Gr w11a w12:=by rw [hw12];exact (Gr.refl _).drew
   have hT1:=RecsAt.gr' hT1a g11b;have g12:Gr w11 w12:=g11a.trans g11b;rw [hw11a] at hw12;replace hT1a:=Lib.hid hT1a;replace hw11a:=Lib.hid hw11a;have hA12:=hA11.out.gr g12;have hb12:=hb11.out.gr g12;have hR12:=hR11.out.gr g12;have hw9:W.heap.size≤wo.heap.size:=by have:=gW.size;omega
   have h912:=(h911.out.older (W:=W) hw9).gr g12;have hrab:(Value.slice ra R.length rc).ownBlock ≠ some ab:=owns_blk hR12.o hA12 ht1;have hrn2:(Value.slice ra R.length rc).ownBlock ≠ some nr:=fun hg => by
    cases hra:ra with
    | none => rw [hra] at hg;cases hg
    | some x => rw [hra] at hg;cases hg;exact hrnr.out x hra rfl
   have hWs:W.heap.size≤w12.heap.size:=by have:=g12.size;have:=gx11.out.size;omega
   have r0:=hb12.cell (i:=0) (v:=.int .i64 gg) rfl;have r1:=hb12.cell (i:=1) (v:=.int .i64 e) rfl;have r2:=hb12.cell (i:=2) (v:=.int .i64 ix) rfl;have r3:=hb12.cell (i:=3) (v:=.slice a9 dl c9) rfl;have r4:=hA12.cell k2.out;have r5:=hA12.cell k3.out;have rz1:=hb12.lt;have rz2:=hA12.lt;have hRl2:R.length + 1≤1000000:=by omega
   have hwu:IntKind.i64.wrap ((u:Int) + k) = (u:Int) + k:=wraps_i64 _ (by omega) (by omega);replace hT1:=Lib.hid hT1;replace hw12:=Lib.hid hw12;replace hA12:=Lib.hid hA12;replace hb12:=Lib.hid hb12;replace hR12:=Lib.hid hR12;replace h912:=Lib.hid h912;replace hrab:=Lib.hid hrab;replace hrn2:=Lib.hid hrn2;have hend:∀ (ra9:Option Addr) (rc9:Nat) (w13:World),RowAt W w13 ra9 rc9 (R ++ [(⟨⟨gg,e,ix,d⟩,a9,c9⟩:RcM)])→w12.grownBy w13 (Value.slice ra R.length rc).ownBlock→(∀ z,ra9 = some z→(∃ q,ra = some q∧z.block = q.block) ∨ z.block = w12.heap.size)→WrtP W db ab o cs t M f u ra R ⟨gg,e,ix,d⟩ w ((w13.setCell ⟨ab,o + 2,none⟩ (.int .i64 ((u:Int) + k))).setCell ⟨ab,o + 3,none⟩ (.slice ra9 (R.length + 1) rc9)):=fun ra9 rc9 w13 hR13 hg13 hp13 => by
    have hrow:∀ j,(Value.slice ra R.length rc).ownBlock = some j→j ∈ (ra.map (·.block)).toList:=fun j hj => by
     cases hra:ra with
     | none => rw [hra] at hj;cases hj
     | some q => rw [hra] at hj;cases hj;simp
    have hrow2:∀ j,j ∈ (ra.map (·.block)).toList→∃ q,ra = some q∧q.block = j:=fun j hj => by
     cases hra:ra with
     | none => rw [hra] at hj;cases hj
     | some q => rw [hra] at hj;exact ⟨q,rfl,(List.mem_singleton.1 hj).symm⟩
    have hA13:=hA12.out.grown hg13 (fun e => hrab.out e.symm);have GB:GrX (nr :: ab :: (ra.map (·.block)).toList) wo ((w13.setCell ⟨ab,o + 2,none⟩ (.int .i64 ((u:Int) + k))).setCell ⟨ab,o + 3,none⟩ (.slice ra9 (R.length + 1) rc9)) :=
     ((GrX.grown (((g10.x _).trans (gx11.out.mono (fun x hx => by simp at hx;simp [hx]))).gr g12) hg13 (fun j hj => .inl (by simp [hrow j hj]))).set (p:=⟨ab,o + 2,none⟩) (.inl (by simp)) _).set (p:=⟨ab,o + 3,none⟩) (.inl (by simp)) _
    refine ⟨⟨Mk,ra9,rc9,a9,c9,?_,?_,i2.out,?_,?_,fun b hb => ?_,fun z hz => ?_⟩,?_⟩
    ·refine i3.out.grx GB (fun b hb hm => ?_);have hlt:b < w3.heap.size:=by
      rcases List.mem_cons.1 hm with rfl | hm
      ·exact hnr3
      rcases List.mem_cons.1 hm with rfl | hm
      ·exact hab3
      obtain ⟨q,hq,rfl⟩:=hrow2 b hm;have:=(hR.out.lo q hq).2;omega
     rcases i5'.out b hb with h1 | h1
     ·rcases List.mem_cons.1 hm with rfl | hm
      ·exact hnrM.out h1
      rcases List.mem_cons.1 hm with rfl | hm
      ·exact hab.out h1
      obtain ⟨q,hq,rfl⟩:=hrow2 b hm;exact hrM.out q hq h1
     ·omega
    ·unfold putD;rw [← hfr.out,← hfl.out,← hN.out];exact i1.out
    ·have h15:=(hA13.set (o + 2) (.int .i64 ((u:Int) + k))).set (o + 3) (.slice ra9 (R.length + 1) rc9);rw [hcr.out,← hN.out,Int.natCast_add];exact h15
    ·have h1:∀ x,ra9 = some x→x.block ≠ ab:=fun x hx e0 => owns_blk hR13.o hA13 ht1 (by rw [hx];show some x.block = some ab;rw [e0])
     have h2:∀ y ∈ R ++ [(⟨⟨gg,e,ix,d⟩,a9,c9⟩:RcM)],∀ x,y.a = some x→x.block ≠ ab:=fun y hy x hx e0 => owns_blk (hR13.d y hy).1 hA13 ht2 (by rw [hx];show some x.block = some ab;rw [e0])
     exact (hR13.set (p:=⟨ab,o + 2,none⟩) h1 h2 _).set (p:=⟨ab,o + 3,none⟩) h1 h2 _
    ·rcases i5'.out b hb with h1 | h1
     ·exact .inl h1
     ·exact .inr (by omega)
    ·rcases hp13 z hz with h1 | h1
     ·exact .inl h1
     ·exact .inr (by have:=g12.size;have:=gx11.out.size;omega)
    ·have GA:GrX (M.own db) w wo:=(g03.x _).trans i4'.out;refine (GA.mono (fun x hx => List.mem_cons_of_mem _ (List.mem_append_left _ hx))).join GB (fun x hx => ?_);rcases List.mem_cons.1 hx with rfl | hx
     ·exact .inr (by have:=hnr.out;omega)
     rcases List.mem_cons.1 hx with rfl | hx
     ·exact .inl List.mem_cons_self
     ·exact .inl (List.mem_cons_of_mem _ (List.mem_append_right _ hx))
   replace hend:=Lib.hid hend;refine wp_region_X [19,22] (fun w' => w'.cell? ⟨ab,o + 2,none⟩ = some (.int .i64 u)∧w'.cell? ⟨ab,o + 3,none⟩ = some (.slice ra R.length rc)) (fun w' => w'.cell? ⟨nr,0,none⟩ = some (.int .i64 gg)∧w'.cell? ⟨nr,1,none⟩ = some (.int .i64 e)∧w'.cell? ⟨nr,2,none⟩ = some (.int .i64 ix)∧w'.cell? ⟨nr,3,none⟩ = some (.slice a9 dl c9)) (by kernel_rfl) ?_;have hT0:(fun w' => w'.cell? ⟨nr,0,none⟩ = some (.int .i64 gg)∧w'.cell? ⟨nr,1,none⟩ = some (.int .i64 e)∧w'.cell? ⟨nr,2,none⟩ = some (.int .i64 ix)∧w'.cell? ⟨nr,3,none⟩ = some (.slice a9 dl c9)) w11.drew:=⟨s0,s1,s2,s3⟩
   have hS0:(fun w' => w'.cell? ⟨ab,o + 2,none⟩ = some (.int .i64 u)∧w'.cell? ⟨ab,o + 3,none⟩ = some (.slice ra R.length rc)) w11.drew:=⟨s4,s5⟩
   refine wpAnyX_takeT (i:=0) (v:=?v0a) rfl (by kernel_rfl) (by kernel_rfl) (by kernel_rfl) (by decide) (fun _ _ _ h => h) (by rfl) ?y0a hT0 (fun _ => hS0) ?r0a;case y0a => (intro w hSw;(try dsimp only at hSw);go_simp;try with_reducible rfl)
   try simp only [Act.put,List.setIfInBounds_toArray]
   refine wpAnyX_takeT (i:=1) (v:=?v1a) rfl (by kernel_rfl) (by kernel_rfl) (by kernel_rfl) (by decide) (fun _ _ _ h => h) (by rfl) ?y1a hT0 (fun _ => hS0) ?r1a;case y1a => (intro w hSw;(try dsimp only at hSw);go_simp;try with_reducible rfl)
   try simp only [Act.put]
   refine wpAnyX_takeT (i:=2) (v:=?v2a) rfl (by kernel_rfl) (by kernel_rfl) (by kernel_rfl) (by decide) (fun _ _ _ h => h) (by rfl) ?y2a hT0 (fun _ => hS0) ?r2a;case y2a => (intro w hSw;(try dsimp only at hSw);go_simp;try with_reducible rfl)
   try simp only [Act.put]
   refine wpAnyX_takeT (i:=3) (v:=?v3a) rfl (by kernel_rfl) (by kernel_rfl) (by kernel_rfl) (by decide) (fun _ _ _ h => h) (by rfl) ?y3a hT0 (fun _ => hS0) ?r3a;case y3a => (intro w hSw;(try dsimp only at hSw);go_simp;try with_reducible rfl)
   try simp only [Act.put]
   refine wpAnyX_takeT (i:=4) (v:=?v4a) rfl (by kernel_rfl) (by kernel_rfl) (by kernel_rfl) (by decide) (fun _ _ _ h => h) (by rfl) ?y4a hT0 (fun _ => hS0) ?r4a;case y4a => (intro w hSw;(try dsimp only at hSw);go_simp;try with_reducible rfl)
   try simp only [Act.put]
   refine wpAnyX_takeS (i:=5) (v:=?v5a) rfl (by kernel_rfl) (by kernel_rfl) (by kernel_rfl) (by kernel_rfl) (by kernel_rfl) (by decide) (fun _ _ _ h => h) (by rfl) ?y5a ⟨hS0,hT0⟩ ?r5a;case y5a => (intro w hSw;(try dsimp only at hSw);go_simp;try with_reducible rfl)
   try simp only [Act.put]
   refine wpAnyX_takeT (i:=6) (v:=?v6a) rfl (by kernel_rfl) (by kernel_rfl) (by kernel_rfl) (by decide) (fun _ _ _ h => h) (by rfl) ?y6a hT0 (fun _ => hS0) ?r6a;case y6a => (intro w hSw;(try dsimp only at hSw);go_simp;try with_reducible rfl)
   try simp only [Act.put]
   refine wpAnyX_takeT (i:=7) (v:=?v7a) rfl (by kernel_rfl) (by kernel_rfl) (by kernel_rfl) (by decide) (fun _ _ _ h => h) (by rfl) ?y7a hT0 (fun _ => hS0) ?r7a;case y7a => (intro w hSw;(try dsimp only at hSw);go_simp;try with_reducible rfl)
   try simp only [Act.put]
   refine wpAnyX_takeT (i:=10) (v:=?v10a) rfl (by kernel_rfl) (by kernel_rfl) (by kernel_rfl) (by decide) (fun _ _ _ h => h) (by rfl) ?y10a hT0 (fun _ => hS0) ?r10a;case y10a => (intro w hSw;(try dsimp only at hSw);go_simp;try with_reducible rfl)
   try simp only [Act.put]
   refine wpAnyX_takeT (i:=11) (v:=?v11a) rfl (by kernel_rfl) (by kernel_rfl) (by kernel_rfl) (by decide) (fun _ _ _ h => h) (by rfl) ?y11a hT0 (fun _ => hS0) ?r11a;case y11a => (intro w hSw;(try dsimp only at hSw);go_simp;try with_reducible rfl)
   try simp only [Act.put]
   refine wpAnyX_takeT (i:=12) (v:=?v12a) rfl (by kernel_rfl) (by kernel_rfl) (by kernel_rfl) (by decide) (fun _ _ _ h => h) (by rfl) ?y12a hT0 (fun _ => hS0) ?r12a;case y12a => (intro w hSw;(try dsimp only at hSw);go_simp;try with_reducible rfl)
   try simp only [Act.put]
   refine wpAnyX_takeS (i:=13) (v:=?v13a) rfl (by kernel_rfl) (by kernel_rfl) (by kernel_rfl) (by kernel_rfl) (by kernel_rfl) (by decide) (fun _ _ _ h => h) (by rfl) ?y13a ⟨hS0,hT0⟩ ?r13a;case y13a => (intro w hSw;(try dsimp only at hSw);go_simp;try with_reducible rfl)
   try simp only [Act.put]
   refine wpAnyX_takeT (i:=14) (v:=?v14a) rfl (by kernel_rfl) (by kernel_rfl) (by kernel_rfl) (by decide) (fun _ _ _ h => h) (by rfl) ?y14a hT0 (fun _ => hS0) ?r14a;case y14a => (intro w hSw;(try dsimp only at hSw);go_simp;try with_reducible rfl)
   try simp only [Act.put]
   have hT12:(fun w' => w'.cell? ⟨nr,0,none⟩ = some (.int .i64 gg)∧w'.cell? ⟨nr,1,none⟩ = some (.int .i64 e)∧w'.cell? ⟨nr,2,none⟩ = some (.int .i64 ix)∧w'.cell? ⟨nr,3,none⟩ = some (.slice a9 dl c9)) w12:=⟨r0,r1,r2,r3⟩
   have hS12:(fun w' => w'.cell? ⟨ab,o + 2,none⟩ = some (.int .i64 u)∧w'.cell? ⟨ab,o + 3,none⟩ = some (.slice ra R.length rc)) w12:=⟨r4,r5⟩
   refine wpAnyX_two (i:=8) (j:=15) (by kernel_rfl) rfl rfl (fun K hK => ?_) (fun K hK => ?_)
   ·go_simp;refine (hcs.out w11.drew).mono ?_;rintro q wA ⟨rfl,hwA⟩;subst wA;refine hK.out _ _ ⟨fun _ => hS0,hT0⟩ ?_;clear hK K;try simp only [Act.put,List.setIfInBounds_toArray,List.set_cons_zero,List.set_cons_succ]
    refine wpAnyX_takeT (i:=9) (v:=?v9b) rfl (by kernel_rfl) (by kernel_rfl) (by kernel_rfl) (by decide) (fun _ _ _ h => h) (by rfl) ?y9b hT0 (fun _ => hS0) ?r9b;case y9b => (intro w hSw;(try dsimp only at hSw);go_simp;try with_reducible rfl)
    try simp only [Act.put]
    refine wpAnyX_one (i:=15) (by kernel_rfl) rfl (fun K hK => ?_);go_simp;rw [← hw12.out];refine hK.out _ _ ⟨fun _ => hS12,hT12⟩ ?_;clear hK K;try simp only [Act.put,List.setIfInBounds_toArray,List.set_cons_zero,List.set_cons_succ]
    refine wpAnyX_one (i:=16) (by kernel_rfl) rfl (fun K hK => ?_);refine step_appRc (W:=W) (by rfl) (.tmp 93) (.tmp 95) (by rfl) ra rc R.length R (by rfl) rfl hR12.out w11.heap.size ⟨⟨gg,e,ix,d⟩,a9,c9⟩ (by rfl) hT1.out h912.out hRl2 hWs ?_;intro ra9 rc9 w13 hR13 hg13 hp13;have hA13:=hA12.out.grown hg13 (fun e => hrab.out e.symm);have hb13:=hb12.out.grown hg13 (fun e => hrn2.out e.symm);have t0:=hb13.cell (i:=0) (v:=.int .i64 gg) rfl;have t1:=hb13.cell (i:=1) (v:=.int .i64 e) rfl;have t2:=hb13.cell (i:=2) (v:=.int .i64 ix) rfl;have t3:=hb13.cell (i:=3) (v:=.slice a9 dl c9) rfl;have t4:=hA13.cell k2.out;have t5:=hA13.cell k3.out;have tz1:=hb13.lt;have tz2:=hA13.lt;have tf2:=hA13.free (o + 2);have tf3:=hA13.free (o + 3);have hT13:(fun w' => w'.cell? ⟨nr,0,none⟩ = some (.int .i64 gg)∧w'.cell? ⟨nr,1,none⟩ = some (.int .i64 e)∧w'.cell? ⟨nr,2,none⟩ = some (.int .i64 ix)∧w'.cell? ⟨nr,3,none⟩ = some (.slice a9 dl c9)) w13:=⟨t0,t1,t2,t3⟩
    have hS13:(fun w' => w'.cell? ⟨ab,o + 2,none⟩ = some (.int .i64 u)∧w'.cell? ⟨ab,o + 3,none⟩ = some (.slice ra R.length rc)) w13:=⟨t4,t5⟩
    replace hR13:=Lib.hid hR13;replace hg13:=Lib.hid hg13;replace hp13:=Lib.hid hp13;replace hA13:=Lib.hid hA13;replace hb13:=Lib.hid hb13;refine hK.out _ _ ⟨fun _ => hS13,hT13⟩ ?_;clear hK K;try simp only [Act.put,List.setIfInBounds_toArray]
    refine wpAnyX_takeT (i:=17) (v:=?v17b) rfl (by kernel_rfl) (by kernel_rfl) (by kernel_rfl) (by decide) (fun _ _ _ h => h) (by rfl) ?y17b hT13 (fun _ => hS13) ?r17b;case y17b => (intro w hSw;(try dsimp only at hSw);go_simp;try with_reducible rfl)
    try simp only [Act.put]
    refine wpAnyX_takeT (i:=18) (v:=?v18b) rfl (by kernel_rfl) (by kernel_rfl) (by kernel_rfl) (by decide) (fun _ _ _ h => h) (by rfl) ?y18b hT13 (fun _ => hS13) ?r18b;case y18b => (intro w hSw;(try dsimp only at hSw);go_simp;try with_reducible rfl)
    try simp only [Act.put]
    have hA14:=hA13.out.set (o + 2) (.int .i64 ((u:Int) + k));have hb14:=hb13.out.other (a:=⟨ab,o + 2,none⟩) (Ne.symm habn) (.int .i64 ((u:Int) + k));have q0:=hb14.cell (i:=0) (v:=.int .i64 gg) rfl;have q1:=hb14.cell (i:=1) (v:=.int .i64 e) rfl;have q2:=hb14.cell (i:=2) (v:=.int .i64 ix) rfl;have q3:=hb14.cell (i:=3) (v:=.slice a9 dl c9) rfl;have qf:=hA14.free (o + 3);have qc:(w13.setCell ⟨ab,o + 2,none⟩ (.int .i64 ((u:Int) + k))).cell? ⟨ab,o + 3,none⟩ = some (.slice ra R.length rc):=hA14.cell (by rw [Array.getElem?_setIfInBounds_ne (by omega)];exact k3.out);have qz:=hA14.lt;have hT14:(fun w' => w'.cell? ⟨nr,0,none⟩ = some (.int .i64 gg)∧w'.cell? ⟨nr,1,none⟩ = some (.int .i64 e)∧w'.cell? ⟨nr,2,none⟩ = some (.int .i64 ix)∧w'.cell? ⟨nr,3,none⟩ = some (.slice a9 dl c9)) (w13.setCell ⟨ab,o + 2,none⟩ (.int .i64 ((u:Int) + k))):=⟨q0,q1,q2,q3⟩
    replace hA14:=Lib.hid hA14;replace hb14:=Lib.hid hb14;refine wpAnyX_one (i:=19) (by kernel_rfl) rfl (fun K hK => ?_);go_simp;refine hK.out _ _ ⟨fun h => absurd h (by decide),hT14⟩ ?_;clear hK K;try simp only [Act.put,List.setIfInBounds_toArray,List.set_cons_zero,List.set_cons_succ]
    refine wpAnyX_takeT (i:=20) (v:=?v20b) rfl (by kernel_rfl) (by kernel_rfl) (by kernel_rfl) (by decide) (fun _ _ _ h => h) (by rfl) ?y20b hT14 (fun h => absurd h (by decide)) ?r20b;case y20b => (intro w hSw;(try dsimp only at hSw);go_simp;try with_reducible rfl)
    try simp only [Act.put]
    refine wpAnyX_takeT (i:=21) (v:=?v21b) rfl (by kernel_rfl) (by kernel_rfl) (by kernel_rfl) (by decide) (fun _ _ _ h => h) (by rfl) ?y21b hT14 (fun h => absurd h (by decide)) ?r21b;case y21b => (intro w hSw;(try dsimp only at hSw);go_simp;try with_reducible rfl)
    try simp only [Act.put]
    have hA15:=hA14.out.set (o + 3) (.slice ra9 (R.length + 1) rc9);have hb15:=hb14.out.other (a:=⟨ab,o + 3,none⟩) (Ne.symm habn) (.slice ra9 (R.length + 1) rc9);have hT15:(fun w' => w'.cell? ⟨nr,0,none⟩ = some (.int .i64 gg)∧w'.cell? ⟨nr,1,none⟩ = some (.int .i64 e)∧w'.cell? ⟨nr,2,none⟩ = some (.int .i64 ix)∧w'.cell? ⟨nr,3,none⟩ = some (.slice a9 dl c9)) ((w13.setCell ⟨ab,o + 2,none⟩ (.int .i64 ((u:Int) + k))).setCell ⟨ab,o + 3,none⟩ (.slice ra9 (R.length + 1) rc9)):=⟨hb15.cell rfl,hb15.cell rfl,hb15.cell rfl,hb15.cell rfl⟩
    replace hA15:=Lib.hid hA15;replace hb15:=Lib.hid hb15;refine wpAnyX_one (i:=22) (by kernel_rfl) rfl (fun K hK => ?_);go_simp;refine hK.out _ _ ⟨fun h => absurd h (by decide),hT15⟩ ?_;clear hK K;try simp only [Act.put,List.setIfInBounds_toArray,List.set_cons_zero,List.set_cons_succ]
    refine wpAnyX_done (by kernel_rfl) ?_ _;refine NoPanic.normal ?_;go_wp2_with fail;go_ret;refine ⟨rfl,?_⟩;exact hend.out ra9 rc9 w13 hR13.out hg13.out hp13.out
   ·go_simp;rw [← hw12.out];refine hK.out _ _ ⟨fun _ => hS12,hT12⟩ ?_;clear hK K;try simp only [Act.put,List.setIfInBounds_toArray,List.set_cons_zero,List.set_cons_succ]
    refine wpAnyX_one (i:=8) (by kernel_rfl) rfl (fun K hK => ?_);go_simp;refine (hcs.out w12).mono ?_;rintro q wA ⟨rfl,hwA⟩;subst wA;refine hK.out _ _ ⟨fun _ => hS12,hT12⟩ ?_;clear hK K;try simp only [Act.put,List.setIfInBounds_toArray,List.set_cons_zero,List.set_cons_succ]
    refine wpAnyX_takeT (i:=9) (v:=?v9c) rfl (by kernel_rfl) (by kernel_rfl) (by kernel_rfl) (by decide) (fun _ _ _ h => h) (by rfl) ?y9c hT12 (fun _ => hS12) ?r9c;case y9c => (intro w hSw;(try dsimp only at hSw);go_simp;try with_reducible rfl)
    try simp only [Act.put]
    refine wpAnyX_one (i:=16) (by kernel_rfl) rfl (fun K hK => ?_);refine step_appRc (W:=W) (by rfl) (.tmp 93) (.tmp 95) (by rfl) ra rc R.length R (by rfl) rfl hR12.out w11.heap.size ⟨⟨gg,e,ix,d⟩,a9,c9⟩ (by rfl) hT1.out h912.out hRl2 hWs ?_;intro ra9 rc9 w13 hR13 hg13 hp13;have hA13:=hA12.out.grown hg13 (fun e => hrab.out e.symm);have hb13:=hb12.out.grown hg13 (fun e => hrn2.out e.symm);have t0:=hb13.cell (i:=0) (v:=.int .i64 gg) rfl;have t1:=hb13.cell (i:=1) (v:=.int .i64 e) rfl;have t2:=hb13.cell (i:=2) (v:=.int .i64 ix) rfl;have t3:=hb13.cell (i:=3) (v:=.slice a9 dl c9) rfl;have t4:=hA13.cell k2.out;have t5:=hA13.cell k3.out;have tz1:=hb13.lt;have tz2:=hA13.lt;have tf2:=hA13.free (o + 2);have tf3:=hA13.free (o + 3);have hT13:(fun w' => w'.cell? ⟨nr,0,none⟩ = some (.int .i64 gg)∧w'.cell? ⟨nr,1,none⟩ = some (.int .i64 e)∧w'.cell? ⟨nr,2,none⟩ = some (.int .i64 ix)∧w'.cell? ⟨nr,3,none⟩ = some (.slice a9 dl c9)) w13:=⟨t0,t1,t2,t3⟩
    have hS13:(fun w' => w'.cell? ⟨ab,o + 2,none⟩ = some (.int .i64 u)∧w'.cell? ⟨ab,o + 3,none⟩ = some (.slice ra R.length rc)) w13:=⟨t4,t5⟩
    replace hR13:=Lib.hid hR13;replace hg13:=Lib.hid hg13;replace hp13:=Lib.hid hp13;replace hA13:=Lib.hid hA13;replace hb13:=Lib.hid hb13;refine hK.out _ _ ⟨fun _ => hS13,hT13⟩ ?_;clear hK K;try simp only [Act.put,List.setIfInBounds_toArray]
    refine wpAnyX_takeT (i:=17) (v:=?v17c) rfl (by kernel_rfl) (by kernel_rfl) (by kernel_rfl) (by decide) (fun _ _ _ h => h) (by rfl) ?y17c hT13 (fun _ => hS13) ?r17c;case y17c => (intro w hSw;(try dsimp only at hSw);go_simp;try with_reducible rfl)
    try simp only [Act.put]
    refine wpAnyX_takeT (i:=18) (v:=?v18c) rfl (by kernel_rfl) (by kernel_rfl) (by kernel_rfl) (by decide) (fun _ _ _ h => h) (by rfl) ?y18c hT13 (fun _ => hS13) ?r18c;case y18c => (intro w hSw;(try dsimp only at hSw);go_simp;try with_reducible rfl)
    try simp only [Act.put]
    have hA14:=hA13.out.set (o + 2) (.int .i64 ((u:Int) + k));have hb14:=hb13.out.other (a:=⟨ab,o + 2,none⟩) (Ne.symm habn) (.int .i64 ((u:Int) + k));have q0:=hb14.cell (i:=0) (v:=.int .i64 gg) rfl;have q1:=hb14.cell (i:=1) (v:=.int .i64 e) rfl;have q2:=hb14.cell (i:=2) (v:=.int .i64 ix) rfl;have q3:=hb14.cell (i:=3) (v:=.slice a9 dl c9) rfl;have qf:=hA14.free (o + 3);have qc:(w13.setCell ⟨ab,o + 2,none⟩ (.int .i64 ((u:Int) + k))).cell? ⟨ab,o + 3,none⟩ = some (.slice ra R.length rc):=hA14.cell (by rw [Array.getElem?_setIfInBounds_ne (by omega)];exact k3.out);have qz:=hA14.lt;have hT14:(fun w' => w'.cell? ⟨nr,0,none⟩ = some (.int .i64 gg)∧w'.cell? ⟨nr,1,none⟩ = some (.int .i64 e)∧w'.cell? ⟨nr,2,none⟩ = some (.int .i64 ix)∧w'.cell? ⟨nr,3,none⟩ = some (.slice a9 dl c9)) (w13.setCell ⟨ab,o + 2,none⟩ (.int .i64 ((u:Int) + k))):=⟨q0,q1,q2,q3⟩
    replace hA14:=Lib.hid hA14;replace hb14:=Lib.hid hb14;refine wpAnyX_one (i:=19) (by kernel_rfl) rfl (fun K hK => ?_);go_simp;refine hK.out _ _ ⟨fun h => absurd h (by decide),hT14⟩ ?_;clear hK K;try simp only [Act.put,List.setIfInBounds_toArray,List.set_cons_zero,List.set_cons_succ]
    refine wpAnyX_takeT (i:=20) (v:=?v20c) rfl (by kernel_rfl) (by kernel_rfl) (by kernel_rfl) (by decide) (fun _ _ _ h => h) (by rfl) ?y20c hT14 (fun h => absurd h (by decide)) ?r20c;case y20c => (intro w hSw;(try dsimp only at hSw);go_simp;try with_reducible rfl)
    try simp only [Act.put]
    refine wpAnyX_takeT (i:=21) (v:=?v21c) rfl (by kernel_rfl) (by kernel_rfl) (by kernel_rfl) (by decide) (fun _ _ _ h => h) (by rfl) ?y21c hT14 (fun h => absurd h (by decide)) ?r21c;case y21c => (intro w hSw;(try dsimp only at hSw);go_simp;try with_reducible rfl)
    try simp only [Act.put]
    have hA15:=hA14.out.set (o + 3) (.slice ra9 (R.length + 1) rc9);have hb15:=hb14.out.other (a:=⟨ab,o + 3,none⟩) (Ne.symm habn) (.slice ra9 (R.length + 1) rc9);have hT15:(fun w' => w'.cell? ⟨nr,0,none⟩ = some (.int .i64 gg)∧w'.cell? ⟨nr,1,none⟩ = some (.int .i64 e)∧w'.cell? ⟨nr,2,none⟩ = some (.int .i64 ix)∧w'.cell? ⟨nr,3,none⟩ = some (.slice a9 dl c9)) ((w13.setCell ⟨ab,o + 2,none⟩ (.int .i64 ((u:Int) + k))).setCell ⟨ab,o + 3,none⟩ (.slice ra9 (R.length + 1) rc9)):=⟨hb15.cell rfl,hb15.cell rfl,hb15.cell rfl,hb15.cell rfl⟩
    replace hA15:=Lib.hid hA15;replace hb15:=Lib.hid hb15;refine wpAnyX_one (i:=22) (by kernel_rfl) rfl (fun K hK => ?_);go_simp;refine hK.out _ _ ⟨fun h => absurd h (by decide),hT15⟩ ?_;clear hK K;try simp only [Act.put,List.setIfInBounds_toArray,List.set_cons_zero,List.set_cons_succ]
    refine wpAnyX_done (by kernel_rfl) ?_ _;refine NoPanic.normal ?_;go_wp2_with fail;go_ret;refine ⟨rfl,?_⟩;exact hend.out ra9 rc9 w13 hR13.out hg13.out hp13.out
abbrev largeE (E:Nat→Addr):Value:=.iface 297 (.pointer (some (E 5)))
set_option maxHeartbeats 1600000 in
theorem write_lost {G:List Nat} {E:Nat→Addr} (w:World) (hE:EAt G E w) (i4:0 ∈ G) {db:Nat} {M:DskM} (h:DskAt w db M) (hl:M.d.lost = true) (ab o:Nat) (g e i:Int) (a:Option Addr) (n c:Nat) :
 Calls Tryz.prog 79 #[.pointer (some ⟨ab,o,none⟩),.pointer (some ⟨db,0,none⟩),.agg #[.int .i64 g,.int .i64 e,.int .i64 i,.slice a n c]] w fun q w' => q = .returned (lostE E)∧Gr w w':=by
 obtain ⟨wa,hwa⟩:∃ wa,wa = w.alloc (.cells #[.int .i64 g,.int .i64 e,.int .i64 i,.slice a n c] 167):=⟨_,rfl⟩
 have ga:Gr w wa:=by rw [hwa];exact (Gr.refl w).alloc _
 have hlos:=dlost_any wa (h.gr ga);rw [hl] at hlos;have e0:=(hE.gr ga).c0 i4;replace hlos:=Lib.hid hlos;replace hwa:=Lib.hid hwa;replace h:=Lib.hid h;replace hl:=Lib.hid hl;go_enter Tryz.func79,Tryz.ntmps79;go_upto_region 1 with fail
 rw [← hwa.out];go_wp2_with fail;refine hlos.out.mono ?_;rintro q w1 ⟨rfl,hw1⟩;subst w1;go_wp2_with fail;go_ret;exact ⟨rfl,ga⟩
set_option maxHeartbeats 1600000 in
theorem write_large {G:List Nat} {E:Nat→Addr} (w:World) (hE:EAt G E w) (i3:5 ∈ G) {db:Nat} {M:DskM} (h:DskAt w db M) (hl:M.d.lost = false) (ab o:Nat) (g e i:Int) (a:Option Addr) (n c:Nat) (hn:32000 < n) :
 Calls Tryz.prog 79 #[.pointer (some ⟨ab,o,none⟩),.pointer (some ⟨db,0,none⟩),.agg #[.int .i64 g,.int .i64 e,.int .i64 i,.slice a n c]] w fun q w' => q = .returned (largeE E)∧Gr w w':=by
 obtain ⟨wa,hwa⟩:∃ wa,wa = w.alloc (.cells #[.int .i64 g,.int .i64 e,.int .i64 i,.slice a n c] 167):=⟨_,rfl⟩
 have ga:Gr w wa:=by rw [hwa];exact (Gr.refl w).alloc _
 have hN0:Blk wa w.heap.size #[.int .i64 g,.int .i64 e,.int .i64 i,.slice a n c] 167:=by rw [hwa];exact Blk.new _ _ _
 have hlos:=dlost_any wa (h.gr ga);rw [hl] at hlos;have hby:=bytes_large wa (hE.gr ga) i3 g e i a n c hn;have b0:=hN0.cell (i:=0) (v:=.int .i64 g) rfl;have b1:=hN0.cell (i:=1) (v:=.int .i64 e) rfl;have b2:=hN0.cell (i:=2) (v:=.int .i64 i) rfl;have b3:=hN0.cell (i:=3) (v:=.slice a n c) rfl;have z:=hN0.lt;replace hlos:=Lib.hid hlos;replace hby:=Lib.hid hby;replace hN0:=Lib.hid hN0;replace hwa:=Lib.hid hwa;replace h:=Lib.hid h;replace hl:=Lib.hid hl;go_enter Tryz.func79,Tryz.ntmps79;go_upto_region 1 with fail
 rw [← hwa.out];go_wp2_with fail;refine hlos.out.mono ?_;rintro q w1 ⟨rfl,hw1⟩;subst w1;go_wp2_with fail;refine hby.out.mono ?_;rintro q w2 ⟨rfl,g2⟩;have g3:=ga.trans g2;replace g3:=Lib.hid g3;go_wp2_with fail;go_ret;exact ⟨rfl,g3.out⟩
def fitsB (u n:Nat) (r:Rc):Bool:=decide (u + costR r≤n∧r.g≤1099511627776)
set_option maxRecDepth 100000 in
set_option maxHeartbeats 3200000 in
theorem write_full {G:List Nat} {E:Nat→Addr} (w:World) (hE:EAt G E w) (i6:2 ∈ G) {db:Nat} {M:DskM} (h:DskAt w db M) (hl:M.d.lost = false) (ab o:Nat) (cs:Array Value) (t:TypeId) (n u:Nat) (hA:Blk w ab cs t) (k1:cs[o + 1]? = some (.int .i64 n)) (k2:cs[o + 2]? = some (.int .i64 u)) (hn:n≤100000) (hu:u≤100000)
 (r:Rc) (a:Option Addr) (c:Nat) (hr:r.g≤1099511627777∧r.e≤1099511627776∧r.i≤1099511627776) (hd:BytesAt w a r.d) (hc:a = none→c = 0) (hx:∀ x,a = some x→x.block < w.heap.size) (hdl:r.d.length≤32000) (hfit:fitsB u n r = false) :
 Calls Tryz.prog 79 #[.pointer (some ⟨ab,o,none⟩),.pointer (some ⟨db,0,none⟩),rcV r a c] w fun q w' => q = .returned (fullE E)∧Gr w w':=by
 obtain ⟨wa,hwa⟩:∃ wa,wa = w.alloc (.cells (rcC r a c).toArray 167):=⟨_,rfl⟩
 have ga:Gr w wa:=by rw [hwa];exact (Gr.refl w).alloc _
 obtain ⟨nr,hnr⟩:∃ nr,nr = w.heap.size:=⟨_,rfl⟩
 have hN0:Blk wa nr (rcC r a c).toArray 167:=by rw [hwa,hnr];exact Blk.new _ _ _
 have hlos:=dlost_any wa (h.gr ga);rw [hl] at hlos;have hby:=bytes_yes wa r ⟨by omega,by omega,by omega⟩ a c (hd.gr ga) hc (fun x hh => Nat.lt_of_lt_of_le (hx x hh) ga.size) hdl;have hfl1:(frR r).length≤32100:=by
  unfold frR;rw [frameB_len];have:=recB_len (r:=r) ⟨by omega,by omega,by omega⟩ (by omega);omega
 obtain ⟨fl,hfl⟩:∃ fl,fl = (frR r).length:=⟨_,rfl⟩
 have hcr:costR r = costN fl:=by unfold costR;rw [hfl]
 obtain ⟨N,hN⟩:∃ N,N = costN fl:=⟨_,rfl⟩
 have hff:¬ (u + N≤n∧r.g≤1099511627776):=by
  have:=of_decide_eq_false hfit;rw [hcr,← hN] at this;exact this
 rw [← hfl] at hby hfl1;have hNl:N≤1000:=by rw [hN];unfold costN;omega
 have e0:=hE.gr ga;obtain ⟨gg,e,ix,d⟩:=r;dsimp only at hr hd hdl hff;have b0:=hN0.cell (i:=0) (v:=.int .i64 gg) rfl;have b1:=hN0.cell (i:=1) (v:=.int .i64 e) rfl;have b2:=hN0.cell (i:=2) (v:=.int .i64 ix) rfl;have b3:=hN0.cell (i:=3) (v:=.slice a d.length c) rfl;have zn:=hN0.lt;obtain ⟨dl,hdl2⟩:∃ dl,dl = d.length:=⟨_,rfl⟩
 rw [← hdl2] at hdl b3;have hby2:Calls Tryz.prog 117 #[.agg #[.int .i64 gg,.int .i64 e,.int .i64 ix,.slice a dl c]] wa fun q w' => ∃ a' c',q = .returned (.tuple #[.slice a' fl c',.nilIface])∧Own wa w' a' c' (frR ⟨gg,e,ix,d⟩):=by rw [hdl2];exact hby
 clear hby;replace hby2:=Lib.hid hby2;replace hlos:=Lib.hid hlos;replace hwa:=Lib.hid hwa;replace hnr:=Lib.hid hnr;replace hN0:=Lib.hid hN0;replace hfl:=Lib.hid hfl;replace hcr:=Lib.hid hcr;replace hN:=Lib.hid hN;replace h:=Lib.hid h;replace hl:=Lib.hid hl;replace hA:=Lib.hid hA;replace hd:=Lib.hid hd;replace hc:=Lib.hid hc;replace hx:=Lib.hid hx;replace hdl2:=Lib.hid hdl2;replace k1:=Lib.hid k1;replace k2:=Lib.hid k2;replace e0:=Lib.hid e0;replace hfit:=Lib.hid hfit;go_enter Tryz.func79,Tryz.ntmps79;go_upto_region 1 with fail
 rw [← hwa.out,← hnr.out];go_wp2_with fail;refine hlos.out.mono ?_;rintro q w1 ⟨rfl,hw1⟩;subst w1;go_wp2_with fail;refine hby2.out.mono ?_;rintro q w1 ⟨a1,c1,rfl,h1⟩;have g1:=h1.2.2.2.2;have g01:=ga.trans g1;have hA1:=hA.out.gr g01;have hNb1:=hN0.out.gr g1;have hE1:=e0.out.gr g1;have c1':=GrW.cell (hA1.cell k1.out);have c2:=GrW.cell (hA1.cell k2.out);have cr:=GrW.cell (hNb1.cell (i:=0) (v:=.int .i64 gg) rfl);have ce:=GrW.cell (hE1.c0 i6);have za1:=hA1.lt;have zn1:=hNb1.lt;have hcs:=fun w1 => cost_same w1 fl (by omega)
 rw [← hN.out] at hcs;replace hcs:=Lib.hid hcs;replace h1:=Lib.hid h1;replace hA1:=Lib.hid hA1;replace hNb1:=Lib.hid hNb1;replace hE1:=Lib.hid hE1;by_cases hf1:u + N≤n
 ·have e1:((u:Int) + N)≤n:=by omega
  have e2:decide ((n:Int) < (u:Int) + N) = false:=decide_eq_false (by omega);have e3:decide ((1099511627776:Int) < gg) = true:=decide_eq_true (by omega);have e5:(1099511627776:Int) < gg:=by omega
  have e4:¬ (n:Int) < (u:Int) + N:=by omega
  go_upto_region 6 with fail
  refine wp_region_grows (by kernel_rfl) (by kernel_rfl) ?_;repeat (any_goals (first | go_big_quiet_step (first | (go_at_call 118;exact Calls.grows_same (hcs.out _)) | fail) | quiet_step (first | (go_at_call 118;exact Calls.grows_same (hcs.out _)) | fail)))
  refine wpQuiet_nil ?_;intro wz hwq;have gz:=GrW.of hwq;clear hwq;obtain ⟨cz,fz,sz⟩:=gz.cells;try simp only [size_drewN] at cz fz sz
  try simp only [World.size_alloc] at cz fz sz
  try simp only [World.size_drew] at cz fz sz
  try simp only [World.size_setCell] at cz fz sz
  have ce2:wz.cell? ⟨2,0,none⟩ = some (fullE E):=ce ⟨wz,gz⟩;have gg2:=g01.trans gz;clear c1' c2 cr ce;replace gg2:=Lib.hid gg2;go_wp2_with fail;go_ret;exact ⟨rfl,gg2.out⟩
 ·have e1:¬ ((u:Int) + N)≤n:=by omega
  have e2:decide ((n:Int) < (u:Int) + N) = true:=decide_eq_true (by omega);have e4:(n:Int) < (u:Int) + N:=by omega
  go_upto_region 6 with fail
  refine wp_region_grows (by kernel_rfl) (by kernel_rfl) ?_;repeat (any_goals (first | go_big_quiet_step (first | (go_at_call 118;exact Calls.grows_same (hcs.out _)) | fail) | quiet_step (first | (go_at_call 118;exact Calls.grows_same (hcs.out _)) | fail)))
  refine wpQuiet_nil ?_;intro wz hwq;have gz:=GrW.of hwq;clear hwq;obtain ⟨cz,fz,sz⟩:=gz.cells;try simp only [size_drewN] at cz fz sz
  try simp only [World.size_alloc] at cz fz sz
  try simp only [World.size_drew] at cz fz sz
  try simp only [World.size_setCell] at cz fz sz
  have ce2:wz.cell? ⟨2,0,none⟩ = some (fullE E):=ce ⟨wz,gz⟩;have gg2:=g01.trans gz;clear c1' c2 cr ce;replace gg2:=Lib.hid gg2;go_wp2_with fail;go_ret;exact ⟨rfl,gg2.out⟩
end Go.Proofs.YteigofaccjaobaaGreatDoor
