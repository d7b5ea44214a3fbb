/- wal.area.room, wal.area.empty. Turned from I30 (write_full). -/
import Derived.Test.YteigofaccjaobaaGreatDoorKL11
namespace Go.Proofs.YteigofaccjaobaaGreatDoor
open Go.RowKit
set_option maxRecDepth 100000 in
set_option maxHeartbeats 3200000 in
theorem room_no {G:List Nat} {E:Nat→Addr} (w:World) (hE:EAt G E w) (i6:2 ∈ G) (f n u:Nat) (ra:Option Addr) (k rc:Nat)
 (r:Rc) (a:Option Addr) (c:Nat) (hr:r.g≤1099511627777∧r.e≤1099511627776∧r.i≤1099511627776) (hd:BytesAt w a r.d) (hc:a = none→c = 0) (hx:∀ x,a = some x→x.block < w.heap.size) (hdl:r.d.length≤32000) (hfit:fitsB 0 n r = false) :
 Calls Tryz.prog 77 #[.agg (arC f n u ra k rc),rcV r a c] w fun q w' => q = .returned (fullE E)∧Gr w w':=by
 obtain ⟨wa,hwa⟩:∃ wa,wa = (w.alloc (.cells (arC f n u ra k rc) 158)).alloc (.cells (rcC r a c).toArray 167):=⟨_,rfl⟩
 have ga:Gr w wa:=by rw [hwa];exact ((Gr.refl w).alloc _).alloc _
 obtain ⟨nr,hnr⟩:∃ nr,nr = w.heap.size + 1:=⟨_,rfl⟩
 have hN0:Blk wa nr (rcC r a c).toArray 167:=by rw [hwa,hnr];exact Blk.new1 (by simp)
 have hA:Blk wa w.heap.size (arC f n u ra k rc) 158:=by rw [hwa];exact (Blk.new _ _ _).alloc _
 have hby:=bytes_yes wa r ⟨by omega,by omega,by omega⟩ a c (hd.gr ga) hc (fun x hh => Nat.lt_of_lt_of_le (hx x hh) ga.size) hdl;have hfl1:(frR r).length≤32100:=by
  unfold frR;rw [frameB_len];have:=recB_len (r:=r) ⟨by omega,by omega,by omega⟩ (by omega);omega
 obtain ⟨fl,hfl⟩:∃ fl,fl = (frR r).length:=⟨_,rfl⟩
 have hcr:costR r = costN fl:=by unfold costR;rw [hfl]
 obtain ⟨N,hN⟩:∃ N,N = costN fl:=⟨_,rfl⟩
 have hff:¬ (N≤n∧r.g≤1099511627776):=by
  have:=of_decide_eq_false hfit;rw [hcr,← hN,Nat.zero_add] at this;exact this
 rw [← hfl] at hby hfl1;have hNl:N≤1000:=by rw [hN];unfold costN;omega
 have e0:=hE.gr ga;obtain ⟨gg,e,ix,d⟩:=r;dsimp only at hr hd hdl hff;have b0:=hN0.cell (i:=0) (v:=.int .i64 gg) rfl;have b1:=hN0.cell (i:=1) (v:=.int .i64 e) rfl;have b2:=hN0.cell (i:=2) (v:=.int .i64 ix) rfl;have b3:=hN0.cell (i:=3) (v:=.slice a d.length c) rfl;have zn:=hN0.lt;obtain ⟨dl,hdl2⟩:∃ dl,dl = d.length:=⟨_,rfl⟩
 rw [← hdl2] at hdl b3;have hby2:Calls Tryz.prog 117 #[.agg #[.int .i64 gg,.int .i64 e,.int .i64 ix,.slice a dl c]] wa fun q w' => ∃ a' c',q = .returned (.tuple #[.slice a' fl c',.nilIface])∧Own wa w' a' c' (frR ⟨gg,e,ix,d⟩):=by rw [hdl2];exact hby
 clear hby;replace hby2:=Lib.hid hby2;replace hwa:=Lib.hid hwa;replace hnr:=Lib.hid hnr;replace hN0:=Lib.hid hN0;replace hfl:=Lib.hid hfl;replace hcr:=Lib.hid hcr;replace hN:=Lib.hid hN;replace hA:=Lib.hid hA;replace hd:=Lib.hid hd;replace hc:=Lib.hid hc;replace hx:=Lib.hid hx;replace hdl2:=Lib.hid hdl2;replace e0:=Lib.hid e0;replace hfit:=Lib.hid hfit;go_enter Tryz.func77,Tryz.ntmps77;go_upto_region 1 with fail
 rw [← hwa.out,← hnr.out];go_wp2_with fail;refine hby2.out.mono ?_;rintro q w1 ⟨a1,c1,rfl,h1⟩;have g1:=h1.2.2.2.2;have g01:=ga.trans g1;have hA1:=hA.out.gr g1;have hNb1:=hN0.out.gr g1;have hE1:=e0.out.gr g1;have c1':=GrW.cell (hA1.cell (i:=1) (v:=.int .i64 n) rfl);have cr:=GrW.cell (hNb1.cell (i:=0) (v:=.int .i64 gg) rfl);have ce:=GrW.cell (hE1.c0 i6);have za1:=hA1.lt;have zn1:=hNb1.lt;have hcs:=fun w1 => cost_same w1 fl (by omega)
 rw [← hN.out] at hcs;replace hcs:=Lib.hid hcs;replace h1:=Lib.hid h1;replace hA1:=Lib.hid hA1;replace hNb1:=Lib.hid hNb1;replace hE1:=Lib.hid hE1;by_cases hf1:N≤n
 ·have e1:(N:Int)≤n:=by omega
  have e2:decide ((n:Int) < (N:Int)) = false:=decide_eq_false (by omega);have e3:decide ((1099511627776:Int) < gg) = true:=decide_eq_true (by omega);have e5:(1099511627776:Int) < gg:=by omega
  have e4:¬ (n:Int) < (N:Int):=by omega
  go_upto_region 4 with fail
  refine wp_region_grows (by kernel_rfl) (by kernel_rfl) ?_;repeat (any_goals (first | go_big_quiet_step (first | (go_at_call 118;exact Calls.grows_same (hcs.out _)) | fail) | quiet_step (first | (go_at_call 118;exact Calls.grows_same (hcs.out _)) | fail)))
  refine wpQuiet_nil ?_;intro wz hwq;have gz:=GrW.of hwq;clear hwq;obtain ⟨cz,fz,sz⟩:=gz.cells;try simp only [size_drewN] at cz fz sz
  try simp only [World.size_alloc] at cz fz sz
  try simp only [World.size_drew] at cz fz sz
  try simp only [World.size_setCell] at cz fz sz
  have ce2:wz.cell? ⟨2,0,none⟩ = some (fullE E):=ce ⟨wz,gz⟩;have gg2:=g01.trans gz;clear c1' cr ce;replace gg2:=Lib.hid gg2;go_wp2_with fail;go_ret;exact ⟨rfl,gg2.out⟩
 ·have e1:¬ (N:Int)≤n:=by omega
  have e2:decide ((n:Int) < (N:Int)) = true:=decide_eq_true (by omega);have e4:(n:Int) < (N:Int):=by omega
  go_upto_region 4 with fail
  refine wp_region_grows (by kernel_rfl) (by kernel_rfl) ?_;repeat (any_goals (first | go_big_quiet_step (first | (go_at_call 118;exact Calls.grows_same (hcs.out _)) | fail) | quiet_step (first | (go_at_call 118;exact Calls.grows_same (hcs.out _)) | fail)))
  refine wpQuiet_nil ?_;intro wz hwq;have gz:=GrW.of hwq;clear hwq;obtain ⟨cz,fz,sz⟩:=gz.cells;try simp only [size_drewN] at cz fz sz
  try simp only [World.size_alloc] at cz fz sz
  try simp only [World.size_drew] at cz fz sz
  try simp only [World.size_setCell] at cz fz sz
  have ce2:wz.cell? ⟨2,0,none⟩ = some (fullE E):=ce ⟨wz,gz⟩;have gg2:=g01.trans gz;clear c1' cr ce;replace gg2:=Lib.hid gg2;go_wp2_with fail;go_ret;exact ⟨rfl,gg2.out⟩
set_option maxRecDepth 100000 in
set_option maxHeartbeats 3200000 in
theorem room_yes (w:World) (f n u:Nat) (ra:Option Addr) (k rc:Nat)
 (r:Rc) (a:Option Addr) (c:Nat) (hr:r.g≤1099511627777∧r.e≤1099511627776∧r.i≤1099511627776) (hd:BytesAt w a r.d) (hc:a = none→c = 0) (hx:∀ x,a = some x→x.block < w.heap.size) (hdl:r.d.length≤32000) (hfit:fitsB 0 n r = true) :
 Calls Tryz.prog 77 #[.agg (arC f n u ra k rc),rcV r a c] w fun q w' => q = .returned .nilIface∧Gr w w':=by
 obtain ⟨wa,hwa⟩:∃ wa,wa = (w.alloc (.cells (arC f n u ra k rc) 158)).alloc (.cells (rcC r a c).toArray 167):=⟨_,rfl⟩
 have ga:Gr w wa:=by rw [hwa];exact ((Gr.refl w).alloc _).alloc _
 obtain ⟨nr,hnr⟩:∃ nr,nr = w.heap.size + 1:=⟨_,rfl⟩
 have hN0:Blk wa nr (rcC r a c).toArray 167:=by rw [hwa,hnr];exact Blk.new1 (by simp)
 have hA:Blk wa w.heap.size (arC f n u ra k rc) 158:=by rw [hwa];exact (Blk.new _ _ _).alloc _
 have hby:=bytes_yes wa r ⟨by omega,by omega,by omega⟩ a c (hd.gr ga) hc (fun x hh => Nat.lt_of_lt_of_le (hx x hh) ga.size) hdl;have hfl1:(frR r).length≤32100:=by
  unfold frR;rw [frameB_len];have:=recB_len (r:=r) ⟨by omega,by omega,by omega⟩ (by omega);omega
 obtain ⟨fl,hfl⟩:∃ fl,fl = (frR r).length:=⟨_,rfl⟩
 have hcr:costR r = costN fl:=by unfold costR;rw [hfl]
 obtain ⟨N,hN⟩:∃ N,N = costN fl:=⟨_,rfl⟩
 have hff:(N≤n∧r.g≤1099511627776):=by
  have:=of_decide_eq_true hfit;rw [hcr,← hN,Nat.zero_add] at this;exact this
 rw [← hfl] at hby hfl1;have hNl:N≤1000:=by rw [hN];unfold costN;omega
 obtain ⟨gg,e,ix,d⟩:=r;dsimp only at hr hd hdl hff;have b0:=hN0.cell (i:=0) (v:=.int .i64 gg) rfl;have b1:=hN0.cell (i:=1) (v:=.int .i64 e) rfl;have b2:=hN0.cell (i:=2) (v:=.int .i64 ix) rfl;have b3:=hN0.cell (i:=3) (v:=.slice a d.length c) rfl;have zn:=hN0.lt;obtain ⟨dl,hdl2⟩:∃ dl,dl = d.length:=⟨_,rfl⟩
 rw [← hdl2] at hdl b3;have hby2:Calls Tryz.prog 117 #[.agg #[.int .i64 gg,.int .i64 e,.int .i64 ix,.slice a dl c]] wa fun q w' => ∃ a' c',q = .returned (.tuple #[.slice a' fl c',.nilIface])∧Own wa w' a' c' (frR ⟨gg,e,ix,d⟩):=by rw [hdl2];exact hby
 clear hby;replace hby2:=Lib.hid hby2;replace hwa:=Lib.hid hwa;replace hnr:=Lib.hid hnr;replace hN0:=Lib.hid hN0;replace hfl:=Lib.hid hfl;replace hcr:=Lib.hid hcr;replace hN:=Lib.hid hN;replace hA:=Lib.hid hA;replace hd:=Lib.hid hd;replace hc:=Lib.hid hc;replace hx:=Lib.hid hx;replace hdl2:=Lib.hid hdl2;replace hfit:=Lib.hid hfit;go_enter Tryz.func77,Tryz.ntmps77;go_upto_region 1 with fail
 rw [← hwa.out,← hnr.out];go_wp2_with fail;refine hby2.out.mono ?_;rintro q w1 ⟨a1,c1,rfl,h1⟩;have g1:=h1.2.2.2.2;have g01:=ga.trans g1;have hA1:=hA.out.gr g1;have hNb1:=hN0.out.gr g1;have c1':=GrW.cell (hA1.cell (i:=1) (v:=.int .i64 n) rfl);have cr:=GrW.cell (hNb1.cell (i:=0) (v:=.int .i64 gg) rfl);have za1:=hA1.lt;have zn1:=hNb1.lt;have hcs:=fun w1 => cost_same w1 fl (by omega)
 rw [← hN.out] at hcs;replace hcs:=Lib.hid hcs;replace h1:=Lib.hid h1;replace hA1:=Lib.hid hA1;replace hNb1:=Lib.hid hNb1;have hf1:=hff.1;have hf2:=hff.2;have e1:(N:Int)≤n:=by omega
 have e2:decide ((n:Int) < (N:Int)) = false:=decide_eq_false (by omega);have e3:decide ((1099511627776:Int) < gg) = false:=decide_eq_false (by omega);have e5:¬ (1099511627776:Int) < gg:=by omega
 have e4:¬ (n:Int) < (N:Int):=by omega
 go_upto_region 4 with fail
 refine wp_region_grows (by kernel_rfl) (by kernel_rfl) ?_;repeat (any_goals (first | go_big_quiet_step (first | (go_at_call 118;exact Calls.grows_same (hcs.out _)) | fail) | quiet_step (first | (go_at_call 118;exact Calls.grows_same (hcs.out _)) | fail)))
 refine wpQuiet_nil ?_;intro wz hwq;have gz:=GrW.of hwq;clear hwq;obtain ⟨cz,fz,sz⟩:=gz.cells;try simp only [size_drewN] at cz fz sz
 try simp only [World.size_alloc] at cz fz sz
 try simp only [World.size_drew] at cz fz sz
 try simp only [World.size_setCell] at cz fz sz
 have gg2:=g01.trans gz;clear c1' cr;replace gg2:=Lib.hid gg2;go_wp2_with fail;go_ret;exact ⟨rfl,gg2.out⟩
theorem res_c {fn:Func} {p:Tmp} {ty:TypeId} (h:fn.results = #[.cell p ty]) (tmps:Array Value) (w:World) {b:Nat} {cs:Array Value} {t:TypeId} {fs:Array Field} (hb:Blk w b cs t)
 (hp:tmps.getD p undef = .pointer (some ⟨b,0,none⟩)) (hu:Tryz.prog.underlying ty = some (.struct fs)) (hi:(Tryz.prog.info? ty).map (·.size) = some cs.size) :
 (results fn tmps).run Tryz.prog w = .ok (.agg cs) w:=by
 have hl:=run_loadVar_row (P:=Tryz.prog) w b t ty cs (0,0) _ hb hu rfl hi;have e:(results fn tmps).run Tryz.prog w = ((asAddr (tmps.getD p undef)).run Tryz.prog w).andThen fun a w₁ => (loadVar ty a).run Tryz.prog w₁:=by
  simp only [results,h];simp [Sem.run_bind,Result.andThen]
 rw [e,hp];simp [asAddr,Result.andThen,hl]
theorem empty_any (w:World) (f n u:Nat) (ra:Option Addr) (k rc:Nat) :
 Calls Tryz.prog 74 #[.agg (arC f n u ra k rc)] w fun q w' => q = .returned (.agg (arC f n 0 none 0 0))∧Gr w w':=by
 obtain ⟨wB,hwB⟩:∃ wB,wB = (w.alloc (.cells (arC f n u ra k rc) 158)).alloc (.cells arZ 158):=⟨_,rfl⟩
 have gB:Gr w wB:=by rw [hwB];exact ((Gr.refl w).alloc _).alloc _
 have hY:Blk wB (w.heap.size + 1) arZ 158:=by rw [hwB];exact Blk.new1 (by simp)
 have hA:Blk wB w.heap.size (arC f n u ra k rc) 158:=by rw [hwB];exact (Blk.new _ _ _).alloc _
 have c0:=hA.cell (i:=0) (v:=.int .i64 f) rfl;have c1:=hA.cell (i:=1) (v:=.int .i64 n) rfl;have z:=hA.lt;have fy0:=hY.free 0;have fy1:=hY.free 1;have fy2:=hY.free 2;have fy3:=hY.free 3;have by0:=hY.cell (i:=0) (v:=.int .i64 0) rfl;have by1:=hY.cell (i:=1) (v:=.int .i64 0) rfl;have by2:=hY.cell (i:=2) (v:=.int .i64 0) rfl;have by3:=hY.cell (i:=3) (v:=.slice none 0 0) rfl;have zy:=hY.lt;have gf:=gB.set4 (b:=w.heap.size + 1) (by omega) (.int .i64 f) (.int .i64 n) (.int .i64 0) (.slice none 0 0);have gv:=hY.set4 rfl (.int .i64 f) (.int .i64 n) (.int .i64 0) (.slice none 0 0);replace hA:=Lib.hid hA;replace hY:=Lib.hid hY;replace gf:=Lib.hid gf;replace gv:=Lib.hid gv;replace hwB:=Lib.hid hwB;go_enter Tryz.func74,Tryz.ntmps74;go_upto_region 1 with fail
 rw [← hwB.out];go_wp2_with fail;refine bodyPost_ret (v:=.agg (arC f n 0 none 0 0)) ?_ rfl ⟨rfl,gf.out⟩;exact (res_c (b:=w.heap.size + 1) (t:=158) Tryz.results74 _ _ gv.out rfl Tryz.underlying158 (by kernel_rfl)).trans rfl
def RdR (K:Nat→Prop) (w:World) (rb:Nat) (r:List UInt8):Prop:=∃ p at_,RdAt K w rb p at_∧p.drop at_ = r
theorem RdR.gr {K:Nat→Prop} {w w':World} {rb:Nat} {r:List UInt8} (h:RdR K w rb r) (g:Gr w w'):RdR K w' rb r:=by
 obtain ⟨p,a,h1,h2⟩:=h;exact ⟨p,a,h1.gr g,h2⟩
theorem RdR.grx {K:Nat→Prop} {S:List Nat} {w w':World} {rb:Nat} {r:List UInt8} (h:RdR K w rb r) (g:GrX S w w') (h1:rb ∉ S) (h2:∀ b,K b→b ∉ S):RdR K w' rb r:=by
 obtain ⟨p,a,h3,h4⟩:=h;exact ⟨p,a,h3.grx g h1 h2,h4⟩
theorem RdR.lt {K:Nat→Prop} {w:World} {rb:Nat} {r:List UInt8} (h:RdR K w rb r):rb < w.heap.size:=by
 obtain ⟨p,a,⟨_,_,hh,_⟩,h4⟩:=h;exact hh.lt
def RgAt (K:Nat→Prop) (w:World) (vb rb:Nat) (r:List UInt8):Prop:=Blk w vb #[.pointer (some ⟨rb,0,none⟩),.bool false] 180∧RdR K w rb r∧vb ≠ rb
theorem RgAt.gr {K:Nat→Prop} {w w':World} {vb rb:Nat} {r:List UInt8} (h:RgAt K w vb rb r) (g:Gr w w'):RgAt K w' vb rb r:=⟨h.1.gr g,h.2.1.gr g,h.2.2⟩
set_option maxHeartbeats 1600000 in
theorem vnum_any {K:Nat→Prop} (w:World) (vb rb n:Nat) (r:List UInt8) (h:RgAt K w vb rb (numB n ++ r)) (hn:n≤1099511627776) :
 Calls Tryz.prog 92 #[.pointer (some ⟨vb,0,none⟩)] w fun e w' => e = .returned (.int .i64 n)∧RgAt K w' vb rb r∧GrX [rb] w w':=by
 obtain ⟨hB,⟨p,at_,hR,hd⟩,hne⟩:=h;have hq:numR (p.drop at_) = some (n,(numB n).length):=by rw [hd];exact numR_put (by omega) _
 have m:=rnum_yes w rb p at_ 1099511627776 hR hq (by omega);have hd2:p.drop (at_ + (numB n).length) = r:=by rw [← List.drop_drop,hd,List.drop_left]
 have b0:=hB.cell (i:=0) (v:=.pointer (some ⟨rb,0,none⟩)) rfl;have b1:=hB.cell (i:=1) (v:=.bool false) rfl;replace hB:=Lib.hid hB;replace hR:=Lib.hid hR;replace m:=Lib.hid m;replace hq:=Lib.hid hq;replace hd:=Lib.hid hd;replace hd2:=Lib.hid hd2;replace hne:=Lib.hid hne;go_enter Tryz.func92,Tryz.ntmps92;go_wp2_with fail;refine m.out.mono ?_;rintro q w1 ⟨rfl,hR1,g1⟩;have hfin:RgAt K w1 vb rb r∧GrX [rb] w w1:=⟨⟨hB.out.grx g1 (by simp;exact hne.out),⟨p,_,hR1,hd2.out⟩,hne.out⟩,g1⟩
 clear hR1 g1;replace hfin:=Lib.hid hfin;go_wp2_with fail;go_ret;exact ⟨rfl,hfin.out⟩
set_option maxHeartbeats 1600000 in
theorem vballot_any {K:Nat→Prop} (w:World) (vb rb n m:Nat) (r:List UInt8) (h:RgAt K w vb rb (numB n ++ (numB m ++ r))) (hn:n≤1099511627776) (hm:m≤1099511627776) (hK:∀ b,K b→b < w.heap.size) :
 Calls Tryz.prog 91 #[.pointer (some ⟨vb,0,none⟩)] w fun e w' => e = .returned (.agg #[.int .i64 n,.int .i64 m])∧RgAt K w' vb rb r∧GrX [rb] w w':=by
 obtain ⟨w0,hw0⟩:∃ w0,w0 = w.alloc (.cells #[.int .i64 0,.int .i64 0] 23):=⟨_,rfl⟩
 have g0:Gr w w0:=by rw [hw0];exact (Gr.refl w).alloc _
 have hb0:Blk w0 w.heap.size #[.int .i64 0,.int .i64 0] 23:=by rw [hw0];exact Blk.new _ _ _
 have hzr:=h.2.1.lt;have hzv:=h.1.lt;have m1:=vnum_any w0 vb rb n _ (h.gr g0) hn;replace m1:=Lib.hid m1;replace h:=Lib.hid h;go_enter Tryz.func91,Tryz.ntmps91;go_wp2_with fail;rw [← hw0];refine m1.out.mono ?_;rintro q w1 ⟨rfl,h1,g1⟩;have m2:=vnum_any w1 vb rb m _ h1 hm;have hb1:=hb0.grx g1 (by simp;omega);replace m2:=Lib.hid m2;replace h1:=Lib.hid h1;go_wp2_with fail;refine m2.out.mono ?_;rintro q w2 ⟨rfl,h2,g2⟩;have hb2:=hb1.grx g2 (by simp;omega);have hg2:GrX [rb] w w2:=((g0.x [rb]).trans g1).trans g2;have hzz:=hb2.lt;have d0:=hb2.cell (i:=0) (v:=.int .i64 0) rfl;have d1:=hb2.cell (i:=1) (v:=.int .i64 0) rfl;have u0:=hb2.free 0;have u1:=hb2.free 1;replace h2:=Lib.hid h2;replace hg2:=Lib.hid hg2;clear g1 g2;go_wp2_with fail;have hfb:=(hb2.set 0 (.int .i64 n)).set 1 (.int .i64 m);have gs:GrX [w.heap.size] w2 ((w2.setCell ⟨w.heap.size,0,none⟩ (.int .i64 n)).setCell ⟨w.heap.size,1,none⟩ (.int .i64 m)):=((GrX.refl [w.heap.size] w2).set (p:=⟨w.heap.size,0,none⟩) (.inl (by simp)) _).set (p:=⟨w.heap.size,1,none⟩) (.inl (by simp)) _;refine bodyPost_ret (v:=.agg #[.int .i64 n,.int .i64 m]) ?_ rfl ⟨rfl,⟨h2.out.1.grx gs (by simp;omega),h2.out.2.1.grx gs (by simp;omega) (fun b hb => by have:=hK b hb;simp;omega),h2.out.2.2⟩,(hg2.out.set (p:=⟨w.heap.size,0,none⟩) (.inr (Nat.le_refl _)) _).set (p:=⟨w.heap.size,1,none⟩) (.inr (Nat.le_refl _)) _⟩;exact (res_c (b:=w.heap.size) (t:=23) Tryz.results91 _ _ hfb rfl Tryz.underlying23 (by kernel_rfl)).trans rfl
set_option maxHeartbeats 1600000 in
theorem vledger_any {K:Nat→Prop} {G:List Nat} {E:Nat→Addr} {W:World} (w:World) (hE:EAt G E W) (gW:Gr W w) (i0:4 ∈ G) (vb rb:Nat) (hrb:W.heap.size≤rb) (l:List Ent) (hl:ledF l = true) (r:List UInt8) (h:RgAt K w vb rb (numB (ledB l).length ++ (ledB l ++ r))) :
 Calls Tryz.prog 93 #[.pointer (some ⟨vb,0,none⟩)] w fun e w' => ∃ a c L,e = .returned (.slice a l.length c)∧Ents L = l∧LedM (fun b => w.heap.size≤b) w' a L∧(a = none→c = 0)∧l.length≤c∧c≤maxLen∧RgAt K w' vb rb r∧GrX [rb] w w':=by
 obtain ⟨hB,⟨p,at_,hR,hd⟩,hne⟩:=h;have hlen:=ledB_len hl;have hq:numR (p.drop at_) = some ((ledB l).length,(numB (ledB l).length).length):=by rw [hd];exact numR_put (by omega) _
 have hpl:(p.drop at_).length = p.length - at_:=List.length_drop;rw [hd] at hpl;simp only [List.length_append] at hpl;have m:=rbytes_yes w rb p at_ 32768 hR hq (by omega) (by omega);have hdd:p.drop (at_ + (numB (ledB l).length).length) = ledB l ++ r:=by rw [← List.drop_drop,hd,List.drop_left]
 have hd2:p.drop (at_ + (numB (ledB l).length).length + (ledB l).length) = r:=by rw [← List.drop_drop,hdd,List.drop_left]
 rw [hdd,List.take_left] at m;have b0:=hB.cell (i:=0) (v:=.pointer (some ⟨rb,0,none⟩)) rfl;have b1:=hB.cell (i:=1) (v:=.bool false) rfl;obtain ⟨bl,hbl⟩:∃ bl,bl = (ledB l).length:=⟨_,rfl⟩
 obtain ⟨n,hn⟩:∃ n,n = l.length:=⟨_,rfl⟩
 rw [← hbl] at m;rw [← hn];have hzr:=hR;replace hB:=Lib.hid hB;replace hR:=Lib.hid hR;replace hzr:=Lib.hid hzr;replace m:=Lib.hid m;replace hq:=Lib.hid hq;replace hd:=Lib.hid hd;replace hdd:=Lib.hid hdd;replace hd2:=Lib.hid hd2;replace hne:=Lib.hid hne;replace hpl:=Lib.hid hpl;replace hbl:=Lib.hid hbl;replace hn:=Lib.hid hn;replace hl:=Lib.hid hl;replace hE:=Lib.hid hE;go_enter Tryz.func93,Tryz.ntmps93;go_wp2_with fail;refine m.out.mono ?_;rintro q w1 ⟨a1,c1,rfl,ho,hR1,g1⟩;have gW1:Gr W w1:=GrX.all gW g1 (fun x hx => by rw [List.mem_singleton.1 hx];exact hrb);have hR2:RgAt K w1 vb rb r:=⟨hB.out.grx g1 (by simp;exact hne.out),⟨p,_,hR1,by rw [hbl.out];exact hd2.out⟩,hne.out⟩
 have mr:=oread_yes w1 (hE.out.gr gW1) i0 a1 c1 l hl.out ho.2.1 ho.2.2.1;have s1:=g1.size;rw [← hbl.out] at mr;clear hR1;replace mr:=Lib.hid mr;replace ho:=Lib.hid ho;replace hR2:=Lib.hid hR2;go_wp2_with fail;refine mr.out.mono ?_;rintro q w2 ⟨a2,c2,L,rfl,hL,hM,hcn,hc1,hc2,g2⟩;rw [← hn.out] at hc1 ⊢;have hfin:Ents L = l∧LedM (fun b => w.heap.size≤b) w2 a2 L∧(a2 = none→c2 = 0)∧n≤c2∧c2≤maxLen∧RgAt K w2 vb rb r∧GrX [rb] w w2:=⟨hL,hM.mono fun b _ hb => by omega,hcn,hc1,hc2,hR2.out.gr g2,g1.gr g2⟩
 clear hL hM;replace hfin:=Lib.hid hfin;go_wp2_with fail;go_ret;exact ⟨a2,c2,L,rfl,hfin.out⟩
set_option maxHeartbeats 1600000 in
theorem vended_any {K:Nat→Prop} (w:World) (vb rb:Nat) (h:RgAt K w vb rb []) :
 Calls Tryz.prog 94 #[.pointer (some ⟨vb,0,none⟩)] w fun e w' => e = .returned (.bool true)∧Gr w w':=by
 obtain ⟨hB,⟨p,at_,hR,hd⟩,hne⟩:=h;have hat:at_ = p.length:=by
  have h1:at_≤p.length:=by obtain ⟨_,_,_,_,_,_,h5,_⟩:=hR;exact h5
  have h2:=List.drop_eq_nil_iff.1 hd;omega
 rw [hat] at hR;have m:=rend_yes w rb p hR;have b0:=hB.cell (i:=0) (v:=.pointer (some ⟨rb,0,none⟩)) rfl;have b1:=hB.cell (i:=1) (v:=.bool false) rfl;replace hB:=Lib.hid hB;replace hR:=Lib.hid hR;replace m:=Lib.hid m;replace hd:=Lib.hid hd;go_enter Tryz.func94,Tryz.ntmps94;go_wp2_with fail;refine m.out.mono ?_;rintro q w1 ⟨rfl,g1⟩;go_wp2_with fail;go_ret;exact ⟨rfl,g1⟩
structure VotS where
 pr:Nat
 pn:Nat
 ar:Nat
 an:Nat
 l:List Ent
 cl:Nat
def VotS.ok (s:VotS):Prop:=(s.pr≤1099511627776∧s.pn≤1099511627776∧s.ar≤1099511627776∧s.an≤1099511627776∧s.cl≤1099511627776)∧ledF s.l = true
def numsB (l:List Nat):List UInt8:=l.flatMap numB
def snapB (s:VotS):List UInt8:=numsB [s.pr,s.pn,s.ar,s.an,s.cl] ++ (numB (ledB s.l).length ++ ledB s.l)
theorem snapB_eq (s:VotS):snapB s = numB s.pr ++ (numB s.pn ++ (numB s.ar ++ (numB s.an ++ (numB s.cl ++ (numB (ledB s.l).length ++ (ledB s.l ++ [])))))):=by
 simp [snapB,numsB]
theorem snapB_len {s:VotS} (h:s.ok):(snapB s).length≤20100:=by
 obtain ⟨⟨h1,h2,h3,h4,h5⟩,h6⟩:=h;have:=ledB_len h6;have:=numB_6 (n:=s.pr) (by omega);have:=numB_6 (n:=s.pn) (by omega);have:=numB_6 (n:=s.ar) (by omega);have:=numB_6 (n:=s.an) (by omega);have:=numB_6 (n:=s.cl) (by omega);have:=numB_6 (n:=(ledB s.l).length) (by omega);rw [snapB_eq];simp only [List.length_append,List.length_nil];omega
abbrev stC (s:VotS) (a:Option Addr) (n c:Nat):Array Value:=#[.int .i64 s.pr,.int .i64 s.pn,.int .i64 s.ar,.int .i64 s.an,.slice a n c,.int .i64 s.cl]
set_option maxRecDepth 100000 in
set_option maxHeartbeats 3200000 in
theorem load_yes {G:List Nat} {E:Nat→Addr} {W:World} (w:World) (hE:EAt G E W) (gW:Gr W w) (i0:4 ∈ G) (a:Option Addr) (c:Nat) (s:VotS) (hs:s.ok) (hS:BytesAt w a (snapB s)) (hcn:a = none→c = 0) :
 Calls Tryz.prog 44 #[.slice a (snapB s).length c] w fun e w' => ∃ a' c' L,e = .returned (.tuple #[.agg (stC s a' s.l.length c'),.bool true])∧Ents L = s.l∧LedM (fun b => w.heap.size≤b) w' a' L∧(a' = none→c' = 0)∧s.l.length≤c'∧c'≤maxLen∧Gr w w':=by
 have hsl:=snapB_len hs;obtain ⟨w0,hw0⟩:∃ w0,w0 = w.alloc (.cells #[.int .i64 0,.int .i64 0,.int .i64 0,.int .i64 0,.slice none 0 0,.int .i64 0] 94):=⟨_,rfl⟩
 have g0:Gr w w0:=by rw [hw0];exact (Gr.refl w).alloc _
 have hb0:Blk w0 w.heap.size #[.int .i64 0,.int .i64 0,.int .i64 0,.int .i64 0,.slice none 0 0,.int .i64 0] 94:=by rw [hw0];exact Blk.new _ _ _
 have hz0:=hb0.lt;have hnr:=newReader_any w0 a c (snapB s) (hS.gr g0) hcn (by omega);obtain ⟨bl,hbl⟩:∃ bl,bl = (snapB s).length:=⟨_,rfl⟩
 obtain ⟨n,hn⟩:∃ n,n = s.l.length:=⟨_,rfl⟩
 rw [← hbl] at hnr ⊢;rw [← hn];obtain ⟨⟨h1,h2,h3,h4,h5⟩,hl⟩:=hs;replace hbl:=Lib.hid hbl;replace hnr:=Lib.hid hnr;replace hS:=Lib.hid hS;replace hE:=Lib.hid hE;replace hn:=Lib.hid hn;replace hl:=Lib.hid hl;go_enter Tryz.func44,Tryz.ntmps44;go_wp2_with fail;rw [← hw0];refine hnr.out.mono ?_;rintro q w1 ⟨rb,rfl,hR,hrb,g1⟩;have hrl:rb < w1.heap.size:=by obtain ⟨_,_,hh,_⟩:=hR;exact hh.lt
 have hR1:RdR (fun b => b < w1.heap.size) w1 rb (snapB s):=⟨_,0,hR,List.drop_zero⟩
 rw [snapB_eq] at hR1;have hb1:=hb0.gr g1;obtain ⟨v1,hv1⟩:∃ v1,v1 = w1.alloc (.cells #[.pointer (some ⟨rb,0,none⟩),.bool false] 180):=⟨_,rfl⟩
 have gv1:Gr w1 v1:=by rw [hv1];exact (Gr.refl w1).alloc _
 have hRg:RgAt (fun b => b < w1.heap.size) v1 w1.heap.size rb (numB s.pr ++ (numB s.pn ++ (numB s.ar ++ (numB s.an ++ (numB s.cl ++ (numB (ledB s.l).length ++ (ledB s.l ++ []))))))):=⟨by rw [hv1];exact Blk.new _ _ _,hR1.gr gv1,by omega⟩
 have hbv:=hb1.gr gv1;have zv1:=hRg.1.lt;have m1:=vballot_any v1 w1.heap.size rb s.pr s.pn _ hRg h1 h2 (fun b hb => by omega);replace hR:=Lib.hid hR;replace hR1:=Lib.hid hR1;replace m1:=Lib.hid m1;replace hRg:=Lib.hid hRg;go_wp2_with fail;rw [← hv1];refine m1.out.mono ?_;rintro q w2 ⟨rfl,hRg2,g2⟩;have z2:=g2.size;have m2:=vballot_any w2 w1.heap.size rb s.ar s.an _ hRg2 h3 h4 (fun b hb => by omega);replace m2:=Lib.hid m2;replace hRg2:=Lib.hid hRg2;go_wp2_with fail;refine m2.out.mono ?_;rintro q w3 ⟨rfl,hRg3,g3⟩;have z3:=g3.size;have m3:=vnum_any w3 w1.heap.size rb s.cl _ hRg3 h5;replace m3:=Lib.hid m3;replace hRg3:=Lib.hid hRg3;go_wp2_with fail;refine m3.out.mono ?_;rintro q w4 ⟨rfl,hRg4,g4⟩;have z4:=g4.size;have g14:GrX [rb] v1 w4:=(g2.trans g3).trans g4;have gw4:Gr w w4:=GrX.all ((g0.trans g1).trans gv1) g14 (fun x hx => by rw [List.mem_singleton.1 hx];omega);have m4:=vledger_any w4 (hE.out.gr gW) gw4 i0 w1.heap.size rb (by omega) s.l hl.out [] hRg4;rw [← hn.out] at m4;replace m4:=Lib.hid m4;replace hRg4:=Lib.hid hRg4;go_wp2_with fail;refine m4.out.mono ?_;rintro q w5 ⟨a5,c5,L,rfl,hL,hM,hcn5,hc1,hc2,hRg5,g5⟩;have z5:=g5.size;have g15:=g14.trans g5;have gw5:Gr w w5:=GrX.all ((g0.trans g1).trans gv1) g15 (fun x hx => by rw [List.mem_singleton.1 hx];omega);have hb5:=hbv.grx g15 (by simp;omega);have hM5:LedM (fun b => w.heap.size < b∧w1.heap.size≤b) w5 a5 L:=hM.mono fun b _ hb => ⟨by omega,by omega⟩
 have d0:=hb5.cell (i:=0) (v:=.int .i64 0) rfl;have d1:=hb5.cell (i:=1) (v:=.int .i64 0) rfl;have d2:=hb5.cell (i:=2) (v:=.int .i64 0) rfl;have d3:=hb5.cell (i:=3) (v:=.int .i64 0) rfl;have d4:=hb5.cell (i:=4) (v:=.slice none 0 0) rfl;have d5:=hb5.cell (i:=5) (v:=.int .i64 0) rfl;have u0:=hb5.free 0;have u1:=hb5.free 1;have u2:=hb5.free 2;have u3:=hb5.free 3;have u4:=hb5.free 4;have u5:=hb5.free 5;have zb5:=hb5.lt;replace hM:=Lib.hid hM;replace hM5:=Lib.hid hM5;replace hL:=Lib.hid hL;replace hRg5:=Lib.hid hRg5;clear g14 g2 g3 g4 g5;go_wp2_with fail;go_region_held3 (fun w' => w'.cell? ⟨w5.heap.size,0,none⟩ = some (.int .i64 s.pr)∧w'.cell? ⟨w5.heap.size,1,none⟩ = some (.int .i64 s.pn)∧w'.cell? ⟨w5.heap.size,2,none⟩ = some (.int .i64 s.ar)∧w'.cell? ⟨w5.heap.size,3,none⟩ = some (.int .i64 s.an)∧w'.cell? ⟨w5.heap.size,4,none⟩ = some (.slice a5 n c5)∧w'.cell? ⟨w5.heap.size,5,none⟩ = some (.int .i64 s.cl)) (simp (maxDischargeDepth:=8) [go_sem, *])
  (first
   | (go_at_call 94;(with_reducible refine (vended_any _ _ rb (hRg5.out.gr ?hr)).mono ?_);(case hr => repeat (first | exact Gr.refl _ | refine Gr.alloc ?_ _ | refine Gr.drew ?_));rintro e w6 ⟨rfl,g6⟩;obtain ⟨k6,j6,s6⟩:=g6.cells)
   | fail)
 have g56:Gr w5 w6:=(((Gr.refl w5).alloc _).drew).trans g6;have hb6:=hb5.gr g56;have hfb:=((((((hb6.set 0 (.int .i64 s.pr)).set 1 (.int .i64 s.pn)).set 2 (.int .i64 s.ar)).set 3 (.int .i64 s.an)).set 4 (.slice a5 n c5)).set 5 (.int .i64 s.cl))
 have gs:GrX [w.heap.size] w5 ((((((w6.setCell ⟨w.heap.size,0,none⟩ (.int .i64 s.pr)).setCell ⟨w.heap.size,1,none⟩ (.int .i64 s.pn)).setCell ⟨w.heap.size,2,none⟩ (.int .i64 s.ar)).setCell ⟨w.heap.size,3,none⟩ (.int .i64 s.an)).setCell ⟨w.heap.size,4,none⟩ (.slice a5 n c5)).setCell ⟨w.heap.size,5,none⟩ (.int .i64 s.cl)):=by
  exact (((((((g56.x [w.heap.size]).set (p:=⟨w.heap.size,0,none⟩) (.inl (by simp)) _).set (p:=⟨w.heap.size,1,none⟩) (.inl (by simp)) _).set (p:=⟨w.heap.size,2,none⟩) (.inl (by simp)) _).set (p:=⟨w.heap.size,3,none⟩) (.inl (by simp)) _).set (p:=⟨w.heap.size,4,none⟩) (.inl (by simp)) _).set (p:=⟨w.heap.size,5,none⟩) (.inl (by simp)) _)
 obtain ⟨wf,hwf⟩:∃ wf,wf = ((((((w6.setCell ⟨w.heap.size,0,none⟩ (.int .i64 s.pr)).setCell ⟨w.heap.size,1,none⟩ (.int .i64 s.pn)).setCell ⟨w.heap.size,2,none⟩ (.int .i64 s.ar)).setCell ⟨w.heap.size,3,none⟩ (.int .i64 s.an)).setCell ⟨w.heap.size,4,none⟩ (.slice a5 n c5)).setCell ⟨w.heap.size,5,none⟩ (.int .i64 s.cl)):=⟨_,rfl⟩
 rw [← hwf] at hfb gs ⊢;have hfin:∃ L,Ents L = s.l∧LedM (fun b => w.heap.size≤b) wf a5 L∧(a5 = none→c5 = 0)∧n≤c5∧c5≤maxLen∧Gr w wf:=⟨L,hL.out,(hM5.out.grx gs (fun y hy => by rw [List.mem_singleton.1 hy];omega)).mono (fun b _ hb => by omega),hcn5,hc1,hc2,GrX.all gw5 gs (fun x hx => by rw [List.mem_singleton.1 hx];exact Nat.le_refl _)⟩
 replace hfin:=Lib.hid hfin;replace hfb:=Lib.hid hfb;clear gs hwf;go_wp2_with fail;obtain ⟨L',hL'⟩:=hfin.out;refine bodyPost_ret (v:=.tuple #[.agg (stC s a5 n c5),.bool true]) ?_ rfl ⟨a5,c5,L',rfl,hL'⟩;exact (res_cell (b:=w.heap.size) (t:=94) Tryz.results44 _ _ hfb.out rfl Tryz.underlying94 (by kernel_rfl)).trans rfl
def vrB (l:List Nat) (t:Option (List Ent)):List UInt8:=numsB l ++ (match t with
 | some x => numB (ledB x).length ++ ledB x
 | none => [])
theorem numsB_len:∀ {l:List Nat},(∀ n ∈ l,n≤1099511627776)→(numsB l).length≤6 * l.length
 | [],_ => by simp [numsB]
 | n :: l,h => by
  have h1:=numB_6 (n:=n) (h n (by simp));have h2:=numsB_len (l:=l) fun x hx => h x (by simp [hx])
  unfold numsB at h2 ⊢;rw [List.flatMap_cons,List.length_append,List.length_cons];omega
set_option maxHeartbeats 1600000 in
theorem newReader_own (w:World) (a:Option Addr) (c:Nat) (l:List UInt8) (h:BytesAt w a l) (hc:a = none→c = 0) (hm:l.length≤100000) :
 Calls Tryz.prog 90 #[.slice a l.length c] w fun e w' => ∃ rb,e = .returned (.pointer (some ⟨rb,0,none⟩))∧RdAt (fun b => w.heap.size≤b∧b < w'.heap.size) w' rb l 0∧w.heap.size≤rb∧Gr w w':=by
 have hcl:=cloneB_any w a c l h hc (by omega);replace hcl:=Lib.hid hcl;replace h:=Lib.hid h;replace hc:=Lib.hid hc;go_enter Tryz.func90,Tryz.ntmps90;go_wp2_with fail;refine hcl.out.mono ?_;rintro e w1 ⟨a1,c1,rfl,h1⟩;have hx:=h1.x;have g:=h1.2.2.2.2;replace h1:=Lib.hid h1;go_wp2_with fail;go_ret;refine ⟨w1.heap.size,rfl,⟨a1,c1,Blk.new w1 _ _,hx.2.1.gr ((Gr.refl w1).alloc _),hx.2.2.1,fun x hxx => ?_,Nat.zero_le _,hx.cap,hm⟩,g.size,g.alloc _⟩;have:=hx.lt hxx;exact ⟨by omega,hx.2.2.2 x hxx,by simp;omega⟩
set_option maxRecDepth 100000 in
set_option maxHeartbeats 3200000 in
theorem done_p (w:World) (a:Option Addr) (c:Nat) (s:VotS) (la:Option Addr) (ln lc:Nat) (r m:Nat) (hr:r≤1099511627776) (hm:m≤1099511627776) (hS:BytesAt w a (vrB [1,r,m] none)) (hcn:a = none→c = 0) :
 Calls Tryz.prog 45 #[.agg (stC s la ln lc),.slice a (vrB [1,r,m] none).length c] w fun e w' => e = .returned (.tuple #[.agg (stC {s with pr:=r,pn:=m} la ln lc),.bool true])∧Gr w w':=by
 have hlen:(vrB [1,r,m] none).length≤18:=by
  have:=numsB_len (l:=[1,r,m]) (by simp;omega);simp [vrB] at this ⊢;omega
 have heq:vrB [1,r,m] none = numB 1 ++ (numB r ++ (numB m ++ [])):=by simp [vrB,numsB]
 rw [heq] at hlen hS ⊢;obtain ⟨wa,hwa⟩:∃ wa,wa = w.alloc (.cells (stC s la ln lc) 94):=⟨_,rfl⟩
 obtain ⟨w0,hw0⟩:∃ w0,w0 = wa.alloc (.cells #[.int .i64 0,.int .i64 0,.int .i64 0,.int .i64 0,.slice none 0 0,.int .i64 0] 94):=⟨_,rfl⟩
 have ga:Gr w wa:=by rw [hwa];exact (Gr.refl w).alloc _
 have gb:Gr wa w0:=by rw [hw0];exact (Gr.refl wa).alloc _
 have g0:=ga.trans gb;have hsa:wa.heap.size = w.heap.size + 1:=by rw [hwa];simp
 have hs0:Blk w0 w.heap.size (stC s la ln lc) 94:=Blk.gr (by rw [hwa];exact Blk.new _ _ _) gb;have hb0:Blk w0 (w.heap.size + 1) #[.int .i64 0,.int .i64 0,.int .i64 0,.int .i64 0,.slice none 0 0,.int .i64 0] 94:=by rw [hw0,← hsa];exact Blk.new _ _ _
 have hz0:=hb0.lt;have hnr:=newReader_own w0 a c _ (hS.gr g0) hcn (by omega);clear hlen heq;obtain ⟨bl,hbl⟩:∃ bl,bl = (numB 1 ++ (numB r ++ (numB m ++ []))).length:=⟨_,rfl⟩
 rw [← hbl] at hnr ⊢;replace hbl:=Lib.hid hbl;replace hnr:=Lib.hid hnr;replace hS:=Lib.hid hS;go_enter Tryz.func45,Tryz.ntmps45;go_wp2_with fail;rw [← hwa,← hw0];refine hnr.out.mono ?_;rintro q w1 ⟨rb,rfl,hR,hrb,g1⟩;have hrl:rb < w1.heap.size:=by obtain ⟨_,_,hh,_⟩:=hR;exact hh.lt
 have hR1:RdR (fun b => w0.heap.size≤b∧b < w1.heap.size) w1 rb (numB 1 ++ (numB r ++ (numB m ++ []))):=⟨_,0,hR,List.drop_zero⟩
 obtain ⟨v1,hv1⟩:∃ v1,v1 = w1.alloc (.cells #[.pointer (some ⟨rb,0,none⟩),.bool false] 180):=⟨_,rfl⟩
 have gv1:Gr w1 v1:=by rw [hv1];exact (Gr.refl w1).alloc _
 have hRg:RgAt (fun b => w0.heap.size≤b∧b < w1.heap.size) v1 w1.heap.size rb (numB 1 ++ (numB r ++ (numB m ++ []))):=⟨by rw [hv1];exact Blk.new _ _ _,hR1.gr gv1,by omega⟩
 have hbv:=(hb0.gr g1).gr gv1;have hsv:=(hs0.gr g1).gr gv1;have zv1:=hRg.1.lt;have m1:=vnum_any v1 w1.heap.size rb 1 _ hRg (by omega);replace hR:=Lib.hid hR;replace hR1:=Lib.hid hR1;replace m1:=Lib.hid m1;replace hRg:=Lib.hid hRg;go_wp2_with fail;rw [← hv1];refine m1.out.mono ?_;rintro q w2 ⟨rfl,hRg2,g2⟩;have z2:=g2.size;have m2:=vballot_any w2 w1.heap.size rb r m _ hRg2 hr hm (fun b hb => by omega);replace m2:=Lib.hid m2;replace hRg2:=Lib.hid hRg2;go_wp2_with fail;refine m2.out.mono ?_;rintro q w3 ⟨rfl,hRg3,g3⟩;have z3:=g3.size;have g13:=g2.trans g3;have gw3:Gr w w3:=GrX.all ((g0.trans g1).trans gv1) g13 (fun x hx => by rw [List.mem_singleton.1 hx];omega);have hb3:=hbv.grx g13 (by simp;omega);have hs3:=hsv.grx g13 (by simp;omega);have d0:=hs3.cell (i:=0) (v:=.int .i64 s.pr) rfl;have d1:=hs3.cell (i:=1) (v:=.int .i64 s.pn) rfl;have d2:=hs3.cell (i:=2) (v:=.int .i64 s.ar) rfl;have d3:=hs3.cell (i:=3) (v:=.int .i64 s.an) rfl;have d4:=hs3.cell (i:=4) (v:=.slice la ln lc) rfl;have d5:=hs3.cell (i:=5) (v:=.int .i64 s.cl) rfl;have u0:=hs3.free 0;have u1:=hs3.free 1;have u2:=hs3.free 2;have u3:=hs3.free 3;have u4:=hs3.free 4;have u5:=hs3.free 5;have zs3:=hs3.lt;replace hRg3:=Lib.hid hRg3;clear g13 g2 g3;go_upto_region 16 with fail
 obtain ⟨w4,hw4⟩:∃ w4,w4 = ((w3.setCell ⟨w.heap.size,0,none⟩ (.int .i64 r)).setCell ⟨w.heap.size,1,none⟩ (.int .i64 m)):=⟨_,rfl⟩
 have g34:GrX [w.heap.size] w3 w4:=by rw [hw4];exact (((GrX.refl [w.heap.size] w3).set (p:=⟨w.heap.size,0,none⟩) (.inl (by simp)) _).set (p:=⟨w.heap.size,1,none⟩) (.inl (by simp)) _)
 have hs4:Blk w4 w.heap.size #[.int .i64 r,.int .i64 m,.int .i64 s.ar,.int .i64 s.an,.slice la ln lc,.int .i64 s.cl] 94:=by rw [hw4];exact ((hs3.set 0 (.int .i64 r)).set 1 (.int .i64 m))
 have hb4:=hb3.grx g34 (by simp);have hRg4:RgAt (fun b => w0.heap.size≤b∧b < w1.heap.size) w4 w1.heap.size rb []:=⟨hRg3.out.1.grx g34 (by simp;omega),hRg3.out.2.1.grx g34 (by simp;omega) (fun b hb => by simp;omega),hRg3.out.2.2⟩
 have gw4:Gr w w4:=GrX.all gw3 g34 (fun x hx => by rw [List.mem_singleton.1 hx];exact Nat.le_refl _);have z34:=g34.size;clear d0 u0 d1 u1 d2 u2 d3 u3 d4 u4 d5 u5;have e0:=hs4.cell (i:=0) (v:=.int .i64 r) rfl;have e1:=hs4.cell (i:=1) (v:=.int .i64 m) rfl;have e2:=hs4.cell (i:=2) (v:=.int .i64 s.ar) rfl;have e3:=hs4.cell (i:=3) (v:=.int .i64 s.an) rfl;have e4:=hs4.cell (i:=4) (v:=.slice la ln lc) rfl;have e5:=hs4.cell (i:=5) (v:=.int .i64 s.cl) rfl;have d0:=hb4.cell (i:=0) (v:=.int .i64 0) rfl;have d1:=hb4.cell (i:=1) (v:=.int .i64 0) rfl;have d2:=hb4.cell (i:=2) (v:=.int .i64 0) rfl;have d3:=hb4.cell (i:=3) (v:=.int .i64 0) rfl;have d4:=hb4.cell (i:=4) (v:=.slice none 0 0) rfl;have d5:=hb4.cell (i:=5) (v:=.int .i64 0) rfl;have u0:=hb4.free 0;have u1:=hb4.free 1;have u2:=hb4.free 2;have u3:=hb4.free 3;have u4:=hb4.free 4;have u5:=hb4.free 5;have zb4:=hb4.lt;rw [← hw4];replace hw4:=Lib.hid hw4;replace hRg4:=Lib.hid hRg4;clear g34;go_region_held3 (fun w' => w'.cell? ⟨w.heap.size,0,none⟩ = some (.int .i64 r)∧w'.cell? ⟨w.heap.size,1,none⟩ = some (.int .i64 m)∧w'.cell? ⟨w.heap.size,2,none⟩ = some (.int .i64 s.ar)∧w'.cell? ⟨w.heap.size,3,none⟩ = some (.int .i64 s.an)∧w'.cell? ⟨w.heap.size,4,none⟩ = some (.slice la ln lc)∧w'.cell? ⟨w.heap.size,5,none⟩ = some (.int .i64 s.cl)) (simp (maxDischargeDepth:=8) [go_sem, *])
  (first
   | (go_at_call 94;(with_reducible refine (vended_any _ _ rb (hRg4.out.gr ?hr)).mono ?_);(case hr => repeat (first | exact Gr.refl _ | refine Gr.alloc ?_ _ | refine Gr.drew ?_));rintro e w6 ⟨rfl,g6⟩;have hs6:=hs4.gr (((Gr.refl w4).drew).trans g6);have x0:=hs6.cell (i:=0) (v:=.int .i64 r) rfl;have x1:=hs6.cell (i:=1) (v:=.int .i64 m) rfl;have x2:=hs6.cell (i:=2) (v:=.int .i64 s.ar) rfl;have x3:=hs6.cell (i:=3) (v:=.int .i64 s.an) rfl;have x4:=hs6.cell (i:=4) (v:=.slice la ln lc) rfl;have x5:=hs6.cell (i:=5) (v:=.int .i64 s.cl) rfl;have s6:=g6.size;simp only [World.size_drew] at s6;have hb6:=hb4.gr (((Gr.refl w4).drew).trans g6);have y0:=hb6.cell (i:=0) (v:=.int .i64 0) rfl;have t0:=hb6.free 0;have y1:=hb6.cell (i:=1) (v:=.int .i64 0) rfl;have t1:=hb6.free 1;have y2:=hb6.cell (i:=2) (v:=.int .i64 0) rfl;have t2:=hb6.free 2;have y3:=hb6.cell (i:=3) (v:=.int .i64 0) rfl;have t3:=hb6.free 3;have y4:=hb6.cell (i:=4) (v:=.slice none 0 0) rfl;have t4:=hb6.free 4;have y5:=hb6.cell (i:=5) (v:=.int .i64 0) rfl;have t5:=hb6.free 5)
   | fail)
 have g46:Gr w4 w6:=((Gr.refl w4).drew).trans g6;have hb6:=hb4.gr g46;have hfb:=((((((hb6.set 0 (.int .i64 r)).set 1 (.int .i64 m)).set 2 (.int .i64 s.ar)).set 3 (.int .i64 s.an)).set 4 (.slice la ln lc)).set 5 (.int .i64 s.cl))
 have gs:GrX [w.heap.size + 1] w4 ((((((w6.setCell ⟨w.heap.size + 1,0,none⟩ (.int .i64 r)).setCell ⟨w.heap.size + 1,1,none⟩ (.int .i64 m)).setCell ⟨w.heap.size + 1,2,none⟩ (.int .i64 s.ar)).setCell ⟨w.heap.size + 1,3,none⟩ (.int .i64 s.an)).setCell ⟨w.heap.size + 1,4,none⟩ (.slice la ln lc)).setCell ⟨w.heap.size + 1,5,none⟩ (.int .i64 s.cl)):=(((((((g46.x [w.heap.size + 1]).set (p:=⟨w.heap.size + 1,0,none⟩) (.inl (by simp)) _).set (p:=⟨w.heap.size + 1,1,none⟩) (.inl (by simp)) _).set (p:=⟨w.heap.size + 1,2,none⟩) (.inl (by simp)) _).set (p:=⟨w.heap.size + 1,3,none⟩) (.inl (by simp)) _).set (p:=⟨w.heap.size + 1,4,none⟩) (.inl (by simp)) _).set (p:=⟨w.heap.size + 1,5,none⟩) (.inl (by simp)) _)
 obtain ⟨wf,hwf⟩:∃ wf,wf = ((((((w6.setCell ⟨w.heap.size + 1,0,none⟩ (.int .i64 r)).setCell ⟨w.heap.size + 1,1,none⟩ (.int .i64 m)).setCell ⟨w.heap.size + 1,2,none⟩ (.int .i64 s.ar)).setCell ⟨w.heap.size + 1,3,none⟩ (.int .i64 s.an)).setCell ⟨w.heap.size + 1,4,none⟩ (.slice la ln lc)).setCell ⟨w.heap.size + 1,5,none⟩ (.int .i64 s.cl)):=⟨_,rfl⟩
 rw [← hwf] at hfb gs ⊢;have hfin:Gr w wf:=GrX.all gw4 gs (fun x hx => by rw [List.mem_singleton.1 hx];omega);replace hfb:=Lib.hid hfb;clear gs hwf;go_wp2_with fail;refine bodyPost_ret (v:=.tuple #[.agg #[.int .i64 r,.int .i64 m,.int .i64 s.ar,.int .i64 s.an,.slice la ln lc,.int .i64 s.cl],.bool true]) ?_ rfl ⟨rfl,hfin⟩;exact (res_cell (b:=w.heap.size + 1) (t:=94) Tryz.results45 _ _ hfb.out rfl Tryz.underlying94 (by kernel_rfl)).trans rfl
set_option maxRecDepth 100000 in
set_option maxHeartbeats 3200000 in
theorem done_c (w:World) (a:Option Addr) (c:Nat) (s:VotS) (la:Option Addr) (ln lc:Nat) (k:Nat) (hk:k≤1099511627776) (hS:BytesAt w a (vrB [3,k] none)) (hcn:a = none→c = 0) :
 Calls Tryz.prog 45 #[.agg (stC s la ln lc),.slice a (vrB [3,k] none).length c] w fun e w' => e = .returned (.tuple #[.agg (stC {s with cl:=k} la ln lc),.bool true])∧Gr w w':=by
 have hlen:(vrB [3,k] none).length≤18:=by
  have:=numsB_len (l:=[3,k]) (by simp;omega);simp [vrB] at this ⊢;omega
 have heq:vrB [3,k] none = numB 3 ++ (numB k ++ []):=by simp [vrB,numsB]
 rw [heq] at hlen hS ⊢;obtain ⟨wa,hwa⟩:∃ wa,wa = w.alloc (.cells (stC s la ln lc) 94):=⟨_,rfl⟩
 obtain ⟨w0,hw0⟩:∃ w0,w0 = wa.alloc (.cells #[.int .i64 0,.int .i64 0,.int .i64 0,.int .i64 0,.slice none 0 0,.int .i64 0] 94):=⟨_,rfl⟩
 have ga:Gr w wa:=by rw [hwa];exact (Gr.refl w).alloc _
 have gb:Gr wa w0:=by rw [hw0];exact (Gr.refl wa).alloc _
 have g0:=ga.trans gb;have hsa:wa.heap.size = w.heap.size + 1:=by rw [hwa];simp
 have hs0:Blk w0 w.heap.size (stC s la ln lc) 94:=Blk.gr (by rw [hwa];exact Blk.new _ _ _) gb;have hb0:Blk w0 (w.heap.size + 1) #[.int .i64 0,.int .i64 0,.int .i64 0,.int .i64 0,.slice none 0 0,.int .i64 0] 94:=by rw [hw0,← hsa];exact Blk.new _ _ _
 have hz0:=hb0.lt;have hnr:=newReader_own w0 a c _ (hS.gr g0) hcn (by omega);clear hlen heq;obtain ⟨bl,hbl⟩:∃ bl,bl = (numB 3 ++ (numB k ++ [])).length:=⟨_,rfl⟩
 rw [← hbl] at hnr ⊢;replace hbl:=Lib.hid hbl;replace hnr:=Lib.hid hnr;replace hS:=Lib.hid hS;go_enter Tryz.func45,Tryz.ntmps45;go_wp2_with fail;rw [← hwa,← hw0];refine hnr.out.mono ?_;rintro q w1 ⟨rb,rfl,hR,hrb,g1⟩;have hrl:rb < w1.heap.size:=by obtain ⟨_,_,hh,_⟩:=hR;exact hh.lt
 have hR1:RdR (fun b => w0.heap.size≤b∧b < w1.heap.size) w1 rb (numB 3 ++ (numB k ++ [])):=⟨_,0,hR,List.drop_zero⟩
 obtain ⟨v1,hv1⟩:∃ v1,v1 = w1.alloc (.cells #[.pointer (some ⟨rb,0,none⟩),.bool false] 180):=⟨_,rfl⟩
 have gv1:Gr w1 v1:=by rw [hv1];exact (Gr.refl w1).alloc _
 have hRg:RgAt (fun b => w0.heap.size≤b∧b < w1.heap.size) v1 w1.heap.size rb (numB 3 ++ (numB k ++ [])):=⟨by rw [hv1];exact Blk.new _ _ _,hR1.gr gv1,by omega⟩
 have hbv:=(hb0.gr g1).gr gv1;have hsv:=(hs0.gr g1).gr gv1;have zv1:=hRg.1.lt;have m1:=vnum_any v1 w1.heap.size rb 3 _ hRg (by omega);replace hR:=Lib.hid hR;replace hR1:=Lib.hid hR1;replace m1:=Lib.hid m1;replace hRg:=Lib.hid hRg;go_wp2_with fail;rw [← hv1];refine m1.out.mono ?_;rintro q w2 ⟨rfl,hRg2,g2⟩;have z2:=g2.size;have m2:=vnum_any w2 w1.heap.size rb k _ hRg2 hk;replace m2:=Lib.hid m2;replace hRg2:=Lib.hid hRg2;go_wp2_with fail;refine m2.out.mono ?_;rintro q w3 ⟨rfl,hRg3,g3⟩;have z3:=g3.size;have g13:=g2.trans g3;have gw3:Gr w w3:=GrX.all ((g0.trans g1).trans gv1) g13 (fun x hx => by rw [List.mem_singleton.1 hx];omega);have hb3:=hbv.grx g13 (by simp;omega);have hs3:=hsv.grx g13 (by simp;omega);have d0:=hs3.cell (i:=0) (v:=.int .i64 s.pr) rfl;have d1:=hs3.cell (i:=1) (v:=.int .i64 s.pn) rfl;have d2:=hs3.cell (i:=2) (v:=.int .i64 s.ar) rfl;have d3:=hs3.cell (i:=3) (v:=.int .i64 s.an) rfl;have d4:=hs3.cell (i:=4) (v:=.slice la ln lc) rfl;have d5:=hs3.cell (i:=5) (v:=.int .i64 s.cl) rfl;have u0:=hs3.free 0;have u1:=hs3.free 1;have u2:=hs3.free 2;have u3:=hs3.free 3;have u4:=hs3.free 4;have u5:=hs3.free 5;have zs3:=hs3.lt;replace hRg3:=Lib.hid hRg3;clear g13 g2 g3;go_upto_region 16 with fail
 obtain ⟨w4,hw4⟩:∃ w4,w4 = (w3.setCell ⟨w.heap.size,5,none⟩ (.int .i64 k)):=⟨_,rfl⟩
 have g34:GrX [w.heap.size] w3 w4:=by rw [hw4];exact ((GrX.refl [w.heap.size] w3).set (p:=⟨w.heap.size,5,none⟩) (.inl (by simp)) _)
 have hs4:Blk w4 w.heap.size #[.int .i64 s.pr,.int .i64 s.pn,.int .i64 s.ar,.int .i64 s.an,.slice la ln lc,.int .i64 k] 94:=by rw [hw4];exact (hs3.set 5 (.int .i64 k))
 have hb4:=hb3.grx g34 (by simp);have hRg4:RgAt (fun b => w0.heap.size≤b∧b < w1.heap.size) w4 w1.heap.size rb []:=⟨hRg3.out.1.grx g34 (by simp;omega),hRg3.out.2.1.grx g34 (by simp;omega) (fun b hb => by simp;omega),hRg3.out.2.2⟩
 have gw4:Gr w w4:=GrX.all gw3 g34 (fun x hx => by rw [List.mem_singleton.1 hx];exact Nat.le_refl _);have z34:=g34.size;clear d0 u0 d1 u1 d2 u2 d3 u3 d4 u4 d5 u5;have e0:=hs4.cell (i:=0) (v:=.int .i64 s.pr) rfl;have e1:=hs4.cell (i:=1) (v:=.int .i64 s.pn) rfl;have e2:=hs4.cell (i:=2) (v:=.int .i64 s.ar) rfl;have e3:=hs4.cell (i:=3) (v:=.int .i64 s.an) rfl;have e4:=hs4.cell (i:=4) (v:=.slice la ln lc) rfl;have e5:=hs4.cell (i:=5) (v:=.int .i64 k) rfl;have d0:=hb4.cell (i:=0) (v:=.int .i64 0) rfl;have d1:=hb4.cell (i:=1) (v:=.int .i64 0) rfl;have d2:=hb4.cell (i:=2) (v:=.int .i64 0) rfl;have d3:=hb4.cell (i:=3) (v:=.int .i64 0) rfl;have d4:=hb4.cell (i:=4) (v:=.slice none 0 0) rfl;have d5:=hb4.cell (i:=5) (v:=.int .i64 0) rfl;have u0:=hb4.free 0;have u1:=hb4.free 1;have u2:=hb4.free 2;have u3:=hb4.free 3;have u4:=hb4.free 4;have u5:=hb4.free 5;have zb4:=hb4.lt;rw [← hw4];replace hw4:=Lib.hid hw4;replace hRg4:=Lib.hid hRg4;clear g34;go_region_held3 (fun w' => w'.cell? ⟨w.heap.size,0,none⟩ = some (.int .i64 s.pr)∧w'.cell? ⟨w.heap.size,1,none⟩ = some (.int .i64 s.pn)∧w'.cell? ⟨w.heap.size,2,none⟩ = some (.int .i64 s.ar)∧w'.cell? ⟨w.heap.size,3,none⟩ = some (.int .i64 s.an)∧w'.cell? ⟨w.heap.size,4,none⟩ = some (.slice la ln lc)∧w'.cell? ⟨w.heap.size,5,none⟩ = some (.int .i64 k)) (simp (maxDischargeDepth:=8) [go_sem, *])
  (first
   | (go_at_call 94;(with_reducible refine (vended_any _ _ rb (hRg4.out.gr ?hr)).mono ?_);(case hr => repeat (first | exact Gr.refl _ | refine Gr.alloc ?_ _ | refine Gr.drew ?_));rintro e w6 ⟨rfl,g6⟩;have hs6:=hs4.gr (((Gr.refl w4).drew).trans g6);have x0:=hs6.cell (i:=0) (v:=.int .i64 s.pr) rfl;have x1:=hs6.cell (i:=1) (v:=.int .i64 s.pn) rfl;have x2:=hs6.cell (i:=2) (v:=.int .i64 s.ar) rfl;have x3:=hs6.cell (i:=3) (v:=.int .i64 s.an) rfl;have x4:=hs6.cell (i:=4) (v:=.slice la ln lc) rfl;have x5:=hs6.cell (i:=5) (v:=.int .i64 k) rfl;have s6:=g6.size;simp only [World.size_drew] at s6;have hb6:=hb4.gr (((Gr.refl w4).drew).trans g6);have y0:=hb6.cell (i:=0) (v:=.int .i64 0) rfl;have t0:=hb6.free 0;have y1:=hb6.cell (i:=1) (v:=.int .i64 0) rfl;have t1:=hb6.free 1;have y2:=hb6.cell (i:=2) (v:=.int .i64 0) rfl;have t2:=hb6.free 2;have y3:=hb6.cell (i:=3) (v:=.int .i64 0) rfl;have t3:=hb6.free 3;have y4:=hb6.cell (i:=4) (v:=.slice none 0 0) rfl;have t4:=hb6.free 4;have y5:=hb6.cell (i:=5) (v:=.int .i64 0) rfl;have t5:=hb6.free 5)
   | fail)
 have g46:Gr w4 w6:=((Gr.refl w4).drew).trans g6;have hb6:=hb4.gr g46;have hfb:=((((((hb6.set 0 (.int .i64 s.pr)).set 1 (.int .i64 s.pn)).set 2 (.int .i64 s.ar)).set 3 (.int .i64 s.an)).set 4 (.slice la ln lc)).set 5 (.int .i64 k))
 have gs:GrX [w.heap.size + 1] w4 ((((((w6.setCell ⟨w.heap.size + 1,0,none⟩ (.int .i64 s.pr)).setCell ⟨w.heap.size + 1,1,none⟩ (.int .i64 s.pn)).setCell ⟨w.heap.size + 1,2,none⟩ (.int .i64 s.ar)).setCell ⟨w.heap.size + 1,3,none⟩ (.int .i64 s.an)).setCell ⟨w.heap.size + 1,4,none⟩ (.slice la ln lc)).setCell ⟨w.heap.size + 1,5,none⟩ (.int .i64 k)):=(((((((g46.x [w.heap.size + 1]).set (p:=⟨w.heap.size + 1,0,none⟩) (.inl (by simp)) _).set (p:=⟨w.heap.size + 1,1,none⟩) (.inl (by simp)) _).set (p:=⟨w.heap.size + 1,2,none⟩) (.inl (by simp)) _).set (p:=⟨w.heap.size + 1,3,none⟩) (.inl (by simp)) _).set (p:=⟨w.heap.size + 1,4,none⟩) (.inl (by simp)) _).set (p:=⟨w.heap.size + 1,5,none⟩) (.inl (by simp)) _)
 obtain ⟨wf,hwf⟩:∃ wf,wf = ((((((w6.setCell ⟨w.heap.size + 1,0,none⟩ (.int .i64 s.pr)).setCell ⟨w.heap.size + 1,1,none⟩ (.int .i64 s.pn)).setCell ⟨w.heap.size + 1,2,none⟩ (.int .i64 s.ar)).setCell ⟨w.heap.size + 1,3,none⟩ (.int .i64 s.an)).setCell ⟨w.heap.size + 1,4,none⟩ (.slice la ln lc)).setCell ⟨w.heap.size + 1,5,none⟩ (.int .i64 k)):=⟨_,rfl⟩
 rw [← hwf] at hfb gs ⊢;have hfin:Gr w wf:=GrX.all gw4 gs (fun x hx => by rw [List.mem_singleton.1 hx];omega);replace hfb:=Lib.hid hfb;clear gs hwf;go_wp2_with fail;refine bodyPost_ret (v:=.tuple #[.agg #[.int .i64 s.pr,.int .i64 s.pn,.int .i64 s.ar,.int .i64 s.an,.slice la ln lc,.int .i64 k],.bool true]) ?_ rfl ⟨rfl,hfin⟩;exact (res_cell (b:=w.heap.size + 1) (t:=94) Tryz.results45 _ _ hfb.out rfl Tryz.underlying94 (by kernel_rfl)).trans rfl
set_option maxRecDepth 100000 in
set_option maxHeartbeats 1600000 in
theorem vcopied_any (a:Option Addr) (c:Nat) (L:List EntM) (w:World) (h:LedM Any w a L) (hm:L.length * 96≤140737488351232) :
 Calls Tryz.prog 39 #[.slice a L.length c] w (LedP L w):=by
 obtain ⟨i36,hi,hz0,hz1,hz2⟩:=info_parts Tryz.infoEnt;go_enter Tryz.func39,Tryz.ntmps39;go_wp2_with fail;go_loopw [8,3] (fun iv v wr => ∃ (k:Nat) (L':List EntM),k≤L.length∧iv = .int .i64 k∧L'.length = k∧L'.map (·.e) = (L.take k).map (·.e)∧wr.ownsRow w.heap.size 73 10 v L'.length (L'.flatMap EntM.cells)∧(∀ x ∈ L',x.ok (fun b => w.heap.size≤b) wr∧∀ ad,x.a = some ad→x.e.tasks ≠ []→v.ownBlock ≠ some ad.block)∧Gr w wr) (fun iv _ _ => L.length - (intOf iv).toNat);case atStart => exact ⟨0,[],Nat.zero_le _,rfl,rfl,rfl,World.ownsRow_nil _ _ _ _,(fun _ h => by cases h),Gr.refl _⟩
 case round =>
  obtain ⟨k,L',hk,rfl,hlen,hmap,hown,hoks,hg⟩:=hrel;replace hlen:=Lib.hid hlen;replace hmap:=Lib.hid hmap;replace hoks:=Lib.hid hoks;by_cases hlt:k < L.length
  ·obtain ⟨x,hx⟩:=get_some L k hlt;obtain ⟨b,off,rfl,hb,_,c0,c1,c2,c3,c4,c5,c6,c7,c8,c9⟩:=(h.gr hg).get hx;have hxo:=(h.gr hg).2 x (get_mem hx);have hxm:=ent_cap hxo;replace hx:=Lib.hid hx;go_wp2_with fail;refine (clone_any x.a x.c x.e.tasks _ (hxo.gr ((Gr.refl wr).alloc x.obj)).1.1 hxo.2.1 hxm).mono ?_;rintro e w1 ⟨a1,d1,rfl,r1,m1,q1,q2,g1⟩;obtain ⟨k1,j1,s1⟩:=g1.cells;simp only [World.size_alloc] at k1 j1 s1;have z1:wr.heap.size < w1.heap.size:=by omega
   have kk:=fun o => k1 wr.heap.size o (by omega)
   have jj:=fun o => j1 wr.heap.size o (by omega)
   clear k1 j1
   -- the world behind the store,and behind the literal
   have gW:Gr wr (w1.setCell ⟨wr.heap.size,8,none⟩ (.slice a1 x.e.tasks.length d1)):=(((Gr.refl wr).alloc x.obj).trans g1).setCell (Nat.le_refl _) _;have hown2:=owns_gr hown gW;have hl63:L'.length + 1≤maxLen:=by rw [hlen.out];unfold maxLen;omega
   have hby:(L'.length + 1) * 96≤140737488355328:=by rw [hlen.out];omega
   have n3:w.heap.size≤(w1.setCell ⟨wr.heap.size,8,none⟩ (.slice a1 x.e.tasks.length d1)).heap.size:=by have:=hg.size;simp;omega
   have hrec:=recs_alloc EntM.cells_len (w1.setCell ⟨wr.heap.size,8,none⟩ (.slice a1 x.e.tasks.length d1)) [⟨x.e,a1,d1⟩] 73 (List.toArray (x.e.cells a1 d1)) (by simp);rw [World.size_setCell] at hrec;have hbl:=owns_lt hown;replace hbl:=Lib.hid hbl;go_wp2_with (at_builtin;refine wpList_append_one (k:=10) (enc:=EntM.cells) rfl _ _ 38 rfl w.heap.size 73 i36 _ 96 Tryz.underlying38 hi hz0 hz1 hz2 rfl (by decide) EntM.cells_len EntM.cells_one _ L' rfl (hown2.alloc _) w1.heap.size 1 ⟨x.e,a1,d1⟩ rfl hrec hl63 hby (le_alloc n3 _) ?_;intro v1 w2 hown1 hgr1 hat);have gW2:Gr wr ((w1.setCell ⟨wr.heap.size,8,none⟩ (.slice a1 x.e.tasks.length d1)).alloc (EntM.obj ⟨x.e,a1,d1⟩)):=gW.alloc _;have hg2:Gr w w2:=(hg.trans gW2).grown hgr1 (fun g hg' => (hbl.out g hg').2);have hx1:RecsAt 4 Tsk.cells ((w1.setCell ⟨wr.heap.size,8,none⟩ (.slice a1 x.e.tasks.length d1)).alloc (EntM.obj ⟨x.e,a1,d1⟩)) a1 x.e.tasks:=by
    have hr1:=r1.grx (T:=[wr.heap.size]) (((GrX.refl [wr.heap.size] w1).set (.inl (List.mem_singleton.2 rfl)) (.slice a1 x.e.tasks.length d1):GrX [wr.heap.size] w1 (w1.setCell ⟨wr.heap.size,8,none⟩ (.slice a1 x.e.tasks.length d1))).alloc (EntM.obj ⟨x.e,a1,d1⟩)) (fun y hy => by rw [List.mem_singleton.1 hy];simp);exact hr1.1
   have hnew:∀ ad,a1 = some ad→x.e.tasks ≠ []→wr.heap.size < ad.block:=fun ad h1 h2 => by have:=r1.2 ad h1 h2;simp at this;omega
   have hoks2:∀ y ∈ L' ++ [⟨x.e,a1,d1⟩],y.ok (fun b => w.heap.size≤b) w2∧∀ ad,y.a = some ad→y.e.tasks ≠ []→v1.ownBlock ≠ some ad.block:=by
    intro y hy;rcases List.mem_append.1 hy with hy | hy
    ·obtain ⟨o1,o2⟩:=hoks.out y hy;refine ⟨(o1.gr gW2).grown hgr1 o2,fun ad ha ht => ?_⟩;rcases hat with hat | hat
     ·rw [hat];exact o2 ad ha ht
     ·rw [hat];intro e;have e2:((w1.setCell ⟨wr.heap.size,8,none⟩ (.slice a1 x.e.tasks.length d1)).alloc (EntM.obj ⟨x.e,a1,d1⟩)).heap.size = ad.block:=Option.some.inj e;have e3:=o1.1.1.lt ha ht;have e4:=gW2.size;omega
    ·rw [List.mem_singleton.1 hy];refine ⟨⟨⟨hx1.grown hgr1 (fun ad ha ht e => ?_),fun ad ha ht => ?_⟩,m1,q1,q2,hxm⟩,fun ad ha ht e => ?_⟩
     ·have:=(hbl.out _ e).1;have:=hnew ad ha ht;omega
     ·have:=hnew ad ha ht;have:=hg.size;omega
     ·rcases hat with hat | hat
      ·rw [hat] at e;have:=(hbl.out _ e).1;have:=hnew ad ha ht;omega
      ·rw [hat] at e;have e2:((w1.setCell ⟨wr.heap.size,8,none⟩ (.slice a1 x.e.tasks.length d1)).alloc (EntM.obj ⟨x.e,a1,d1⟩)).heap.size = ad.block:=Option.some.inj e;have e3:=hx1.lt ha ht;omega
   clear hat hgr1 r1 hx1 hnew hbl hoks;have hmap2:(L' ++ [(⟨x.e,a1,d1⟩:EntM)]).map (·.e) = (L.take (k + 1)).map (·.e):=by rw [take_snoc hx.out,List.map_append,List.map_append,hmap.out];rfl
   replace hmap2:=Lib.hid hmap2;replace hoks2:=Lib.hid hoks2;go_wp2_with fail;go_roundw;case rel => exact ⟨k + 1,L' ++ [⟨x.e,a1,d1⟩],by omega,by go_num,by rw [List.length_append,hlen.out];rfl,hmap2.out,hown1,hoks2.out,hg2⟩
   case measure => simp [intOf];omega
  ·have hall:L.take k = L:=List.take_of_length_le (by omega);obtain ⟨a',c',hv,hr,hn,hbb⟩:=recs_of_owns EntM.cells_len hown;have hcap:=owns_cap hown hv;have hL:L'.length = L.length:=by have:=hlen.out;omega
   subst hv;rw [hL] at hcap;have hvl:Value.slice a' L'.length c' = .slice a' L.length c':=by rw [hL]
   rw [hvl];go_wp2_with fail;go_ret;exact ⟨a',c',L',rfl,by rw [hmap.out,hall],⟨⟨hr,fun x hx _ => hbb x hx⟩,fun x hx => (hoks.out x hx).1⟩,hn,hcap.1,hcap.2,hg,hown,fun x hx => (hoks.out x hx).2⟩
end Go.Proofs.YteigofaccjaobaaGreatDoor
