/- admit: line, below (of servers), Kids. -/
import Derived.Test.YtdfelohjdkcpkaaGreatDoorK5
namespace Go.Proofs.YtdfelohjdkcpkaaGreatDoor
open Go.RowKit
def silI (r:Row):Int:=r.gap + r.t - r.q
def lineB (s:Srv) (p:Int × Int) (more:Int):Bool:=decide (wiC none p s < 0) && decide (cmpI ((p.1 * 4096 + p.2 * more) * (rowI s).t) (p.2 * ((rowI s).q * (4096 - silI (rowI s))))≤0)
theorem wiB_par (s:Srv):wiB none s = parOk s:=by
 unfold wiB parOk whole;rfl
set_option maxRecDepth 100000 in
set_option maxHeartbeats 3200000 in
theorem line_any {G:List Nat} {E:Nat→Addr} (s:Srv) (p:Int × Int) (more:Int) (w:World) (hE:EAt G E w) (i0:9 ∈ G) (h:parOk s = true) (hp:Shr p) (m0:0≤more) (m1:more≤4096) :
 Calls Tryz.prog 201 #[.agg #[.int .i64 s.k,.int .i64 s.q,.int .i64 s.t],partV p,.int .i64 more] w fun e w' => e = .returned (.bool (lineB s p more))∧Gr w w':=by
 have hsl:=fun w => slope_yes s w h
 have hwi:=fun w (g:EAt G E w) => plan_within none p s w g i0 (fun _ => hp)
 rw [wiB_par,h] at hwi;have hr:=rowI_ok h;obtain ⟨g0,g1,q1,qt,t2⟩:=hr;obtain ⟨p1,p2,p3,p4⟩:=hp;have wp1:Wide p.1:=⟨p1,by omega⟩
 have wp2:Wide p.2:=⟨by omega,by omega⟩
 have b1:=mul_bd p1 p2 (show (0:Int)≤4096 by decide) (show (4096:Int)≤4096 by decide);have b2:=mul_bd (show 0≤p.2 by omega) p4 m0 m1;have wm1:Wide (p.1 * 4096):=⟨b1.1,by omega⟩
 have wm2:Wide (p.2 * more):=⟨b2.1,by omega⟩
 have was:Wide (p.1 * 4096 + p.2 * more):=⟨by omega,by omega⟩
 have b3:=mul_bd (show 0≤p.1 * 4096 + p.2 * more by omega) (show p.1 * 4096 + p.2 * more≤40000 * 18446744073709551616 by omega) (show 0≤(rowI s).t by omega) t2;have b4:=mul_bd (show 0≤(rowI s).q by omega) (show (rowI s).q≤256 by omega) (show 0≤4096 - silI (rowI s) by unfold silI;omega) (show 4096 - silI (rowI s)≤4096 by unfold silI;omega);have b5:=mul_bd (show 0≤p.2 by omega) p4 b4.1 (show (rowI s).q * (4096 - silI (rowI s))≤1048576 by omega);have hag:=fun w => against_yes (p.1 * 4096 + p.2 * more) p.2 ((rowI s).q * (4096 - silI (rowI s))) (rowI s).t w was wp2 (by omega) b4.1 (by omega) (by omega) (by omega) ⟨b3.1,by omega⟩ ⟨b5.1,by omega⟩
 have hm1:=fun w => mul_any p.1 4096 w wp1 ⟨by omega,by omega⟩ wm1
 have hm2:=fun w => mul_any p.2 more w wp2 ⟨m0,by omega⟩ wm2
 have had:=fun w => add_any (p.1 * 4096) (p.2 * more) w wm1 wm2 was
 obtain ⟨v4,hv4⟩:∃ v,v = (rowI s).q * (4096 - silI (rowI s)):=⟨_,rfl⟩
 unfold silI at *;unfold lineB silI;replace hsl:=Lib.hid hsl;replace hwi:=Lib.hid hwi;replace hag:=Lib.hid hag;replace hm1:=Lib.hid hm1;replace hm2:=Lib.hid hm2;replace had:=Lib.hid had;replace h:=Lib.hid h;obtain ⟨b41,b42⟩:=b4;clear b1 b2 b3 b5 wp1 wp2 wm1 wm2 was p1 p2 p3 p4 hv4;by_cases hc:wiC none p s < 0
 ·rw [decide_eq_true hc,Bool.true_and];obtain ⟨c,hcc⟩:∃ c,c = cmpI ((p.1 * 4096 + p.2 * more) * (rowI s).t) (p.2 * ((rowI s).q * (4096 - ((rowI s).gap + (rowI s).t - (rowI s).q)))):=⟨_,rfl⟩
  rw [← hcc] at hag ⊢;replace hcc:=Lib.hid hcc;go_enter Tryz.func201,Tryz.ntmps201;go_wp2_with fail;refine (hsl.out _).mono ?_;rintro e wa ⟨rfl,ga⟩;obtain ⟨ca,fa,sa⟩:=ga.cells;try simp only [size_drewN] at ca fa sa
  try simp only [World.size_alloc] at ca fa sa
  try simp only [World.size_drew] at ca fa sa
  try simp only [World.size_setCell] at ca fa sa
  have za0:w.heap.size < wa.heap.size:=by omega
  have ya0:w.heap.size≤wa.heap.size:=by omega
  have ka0:=fun o => ca (w.heap.size) o (by omega)
  have ja0:=fun o => fa (w.heap.size) o (by omega)
  have za1:w.heap.size + 1 < wa.heap.size:=by omega
  have ka1:=fun o => ca (w.heap.size + 1) o (by omega)
  have ja1:=fun o => fa (w.heap.size + 1) o (by omega)
  go_wp2_with fail;go_wp2_with fail;refine (hwi.out _ (hE.gr ((((Gr.refl w).alloc _).alloc _).trans ga))).mono ?_;rintro e wb ⟨rfl,gb⟩;obtain ⟨cb,fb,sb⟩:=gb.cells;try simp only [size_drewN] at cb fb sb
  try simp only [World.size_alloc] at cb fb sb
  try simp only [World.size_drew] at cb fb sb
  try simp only [World.size_setCell] at cb fb sb
  have zb0:w.heap.size < wb.heap.size:=by omega
  have yb0:w.heap.size≤wb.heap.size:=by omega
  have kb0:=fun o => cb (w.heap.size) o (by omega)
  have jb0:=fun o => fb (w.heap.size) o (by omega)
  have zb1:w.heap.size + 1 < wb.heap.size:=by omega
  have kb1:=fun o => cb (w.heap.size + 1) o (by omega)
  have jb1:=fun o => fb (w.heap.size + 1) o (by omega)
  go_wp2_with fail;go_wp2_with fail;refine (hm1.out _).mono ?_;rintro e wd ⟨rfl,gd⟩;obtain ⟨cd,fd,sd⟩:=gd.cells;try simp only [size_drewN] at cd fd sd
  try simp only [World.size_alloc] at cd fd sd
  try simp only [World.size_drew] at cd fd sd
  try simp only [World.size_setCell] at cd fd sd
  have zd0:w.heap.size < wd.heap.size:=by omega
  have yd0:w.heap.size≤wd.heap.size:=by omega
  have kd0:=fun o => cd (w.heap.size) o (by omega)
  have jd0:=fun o => fd (w.heap.size) o (by omega)
  have zd1:w.heap.size + 1 < wd.heap.size:=by omega
  have kd1:=fun o => cd (w.heap.size + 1) o (by omega)
  have jd1:=fun o => fd (w.heap.size + 1) o (by omega)
  go_wp2_with fail;go_wp2_with fail;refine (hm2.out _).mono ?_;rintro e we ⟨rfl,ge⟩;obtain ⟨ce,fe,se⟩:=ge.cells;try simp only [size_drewN] at ce fe se
  try simp only [World.size_alloc] at ce fe se
  try simp only [World.size_drew] at ce fe se
  try simp only [World.size_setCell] at ce fe se
  have ze0:w.heap.size + 1 < we.heap.size:=by omega
  have ke0:=fun o => ce (w.heap.size + 1) o (by omega)
  have je0:=fun o => fe (w.heap.size + 1) o (by omega)
  have ze1:wd.heap.size < we.heap.size:=by omega
  have ye1:wd.heap.size≤we.heap.size:=by omega
  have ke1:=fun o => ce (wd.heap.size) o (by omega)
  have je1:=fun o => fe (wd.heap.size) o (by omega)
  go_wp2_with fail;go_wp2_with fail;refine (had.out _).mono ?_;rintro e wf ⟨rfl,gf⟩;obtain ⟨cf,ff,sf⟩:=gf.cells;try simp only [size_drewN] at cf ff sf
  try simp only [World.size_alloc] at cf ff sf
  try simp only [World.size_drew] at cf ff sf
  try simp only [World.size_setCell] at cf ff sf
  have zf0:w.heap.size + 1 < wf.heap.size:=by omega
  have kf0:=fun o => cf (w.heap.size + 1) o (by omega)
  have jf0:=fun o => ff (w.heap.size + 1) o (by omega)
  have zf1:wd.heap.size < wf.heap.size:=by omega
  have yf1:wd.heap.size≤wf.heap.size:=by omega
  have kf1:=fun o => cf (wd.heap.size) o (by omega)
  have jf1:=fun o => ff (wd.heap.size) o (by omega)
  have zf2:we.heap.size < wf.heap.size:=by omega
  have yf2:we.heap.size≤wf.heap.size:=by omega
  have kf2:=fun o => cf (we.heap.size) o (by omega)
  have jf2:=fun o => ff (we.heap.size) o (by omega)
  go_wp2_with fail;go_wp2_with fail;refine (hag.out _).mono ?_;rintro e wj ⟨rfl,gj⟩;obtain ⟨cj,fj,sj⟩:=gj.cells;try simp only [size_drewN] at cj fj sj
  try simp only [World.size_alloc] at cj fj sj
  try simp only [World.size_drew] at cj fj sj
  try simp only [World.size_setCell] at cj fj sj
  have zj0:w.heap.size + 1 < wj.heap.size:=by omega
  have kj0:=fun o => cj (w.heap.size + 1) o (by omega)
  have jj0:=fun o => fj (w.heap.size + 1) o (by omega)
  go_wp2_with fail;go_ret;exact ⟨rfl,(by repeat (first | exact Gr.refl _ | apply Gr.alloc | apply Gr.drew | apply Gr.drewN | (refine Gr.setCell ?_ (by first | (simp;done) | (simp;omega)) _) | (refine Gr.trans ?_ (by assumption))))⟩
 ·rw [decide_eq_false hc,Bool.false_and];go_enter Tryz.func201,Tryz.ntmps201;go_wp2_with fail;refine (hsl.out _).mono ?_;rintro e wa ⟨rfl,ga⟩;obtain ⟨ca,fa,sa⟩:=ga.cells;try simp only [size_drewN] at ca fa sa
  try simp only [World.size_alloc] at ca fa sa
  try simp only [World.size_drew] at ca fa sa
  try simp only [World.size_setCell] at ca fa sa
  have za0:w.heap.size < wa.heap.size:=by omega
  have ya0:w.heap.size≤wa.heap.size:=by omega
  have ka0:=fun o => ca (w.heap.size) o (by omega)
  have ja0:=fun o => fa (w.heap.size) o (by omega)
  have za1:w.heap.size + 1 < wa.heap.size:=by omega
  have ka1:=fun o => ca (w.heap.size + 1) o (by omega)
  have ja1:=fun o => fa (w.heap.size + 1) o (by omega)
  go_wp2_with fail;go_wp2_with fail;refine (hwi.out _ (hE.gr ((((Gr.refl w).alloc _).alloc _).trans ga))).mono ?_;rintro e wb ⟨rfl,gb⟩;obtain ⟨cb,fb,sb⟩:=gb.cells;try simp only [size_drewN] at cb fb sb
  try simp only [World.size_alloc] at cb fb sb
  try simp only [World.size_drew] at cb fb sb
  try simp only [World.size_setCell] at cb fb sb
  have zb0:w.heap.size < wb.heap.size:=by omega
  have yb0:w.heap.size≤wb.heap.size:=by omega
  have kb0:=fun o => cb (w.heap.size) o (by omega)
  have jb0:=fun o => fb (w.heap.size) o (by omega)
  have zb1:w.heap.size + 1 < wb.heap.size:=by omega
  have kb1:=fun o => cb (w.heap.size + 1) o (by omega)
  have jb1:=fun o => fb (w.heap.size + 1) o (by omega)
  go_wp2_with fail;go_ret;exact ⟨rfl,(by repeat (first | exact Gr.refl _ | apply Gr.alloc | apply Gr.drew | apply Gr.drewN | (refine Gr.setCell ?_ (by first | (simp;done) | (simp;omega)) _) | (refine Gr.trans ?_ (by assumption))))⟩
theorem cell_lt0 {w:World} {b o:Nat} {v:Value} (h:w.cell? ⟨b,o,none⟩ = some v):b < w.heap.size:=by
 unfold World.cell? at h;split at h
 ·rename_i hb;exact (Array.getElem?_eq_some_iff.1 hb).1
 ·cases h
set_option maxHeartbeats 800000 in
theorem kids1_any (lb:Nat) (a:Option Addr) (l:List Srv) (c:Nat) (n:Int) (w:World) (hl:SrvsAt w a l) (h:chkS l n = none) (hc:w.cell? ⟨lb,0,none⟩ = some (.slice a l.length c)) :
 Calls Tryz.prog 204 #[.int .i64 n,.pointer (some ⟨lb,0,none⟩)] w fun e w' => e = .returned (.tuple #[.int .i64 (demI l n),.nilIface])∧Gr w w':=by
 have hd:=dservers_yes a l c n w hl h;have hlb:=cell_lt0 hc;replace h:=Lib.hid h;replace hd:=Lib.hid hd;go_enter Tryz.func204,Tryz.ntmps204;go_wp2_with fail;refine (hd.out).mono ?_;rintro e wa ⟨rfl,ga⟩;obtain ⟨ca,fa,sa⟩:=ga.cells;try simp only [size_drewN] at ca fa sa
 try simp only [World.size_alloc] at ca fa sa
 try simp only [World.size_drew] at ca fa sa
 try simp only [World.size_setCell] at ca fa sa
 go_wp2_with fail;go_ret2;exact ⟨rfl,ga⟩
def belowB (s:Srv) (ls:List Int) (f:Int→Int):Bool:=ls.all fun l => decide (f l≤givI (rowI s) l)
set_option maxRecDepth 100000 in
set_option maxHeartbeats 3200000 in
theorem below_kids (s:Srv) (aL:Option Addr) (ls:List Int) (cL:Nat) (lb:Nat) (a:Option Addr) (l:List Srv) (c:Nat) (w:World) (h:parOk s = true) (hL:IntsAt w aL ls) (hm:ls.length≤4096) (hls:∀ x ∈ ls,LenOk x) (hl:SrvsAt w a l) (hk:∀ x,LenOk x→chkS l x = none) (hal:allLeg l = true) (h8:l.length≤8) (hc:w.cell? ⟨lb,0,none⟩ = some (.slice a l.length c)) :
 Calls Tryz.prog 202 #[.agg #[.int .i64 s.k,.int .i64 s.q,.int .i64 s.t],.slice aL ls.length cL,.func (.func 204) #[] #[.pointer (some ⟨lb,0,none⟩)]] w fun e w' => e = .returned (.bool (belowB s ls (demI l)))∧Gr w w':=by
 have hlb:=cell_lt0 hc;unfold belowB;go_enter Tryz.func202,Tryz.ntmps202;go_wp2_with fail;go_loopw [14] (fun iv wr => ∃ k:Nat,k≤ls.length∧iv = .int .i64 k∧(ls.take k).all (fun l' => decide (demI l l'≤givI (rowI s) l')) = true∧Gr (w.alloc (.cells #[.int .i64 s.k,.int .i64 s.q,.int .i64 s.t] 29)) wr) (fun iv _ => ls.length - (intOf iv).toNat);case atStart => exact ⟨0,Nat.zero_le _,rfl,rfl,Gr.refl _⟩
 case round =>
  obtain ⟨k,hkl,rfl,hall,hg⟩:=hrel;have gall:Gr w wr:=((Gr.refl w).alloc _).trans hg;obtain ⟨cg,fg,sg⟩:=hg.cells;simp only [World.size_alloc] at cg fg sg;have k1:=fun o => cg w.heap.size o (by omega)
  clear cg fg;replace hall:=Lib.hid hall;by_cases hlt:k < ls.length
  ·obtain ⟨x,hx⟩:=get_some ls k hlt;obtain ⟨b,off,rfl,hb,c0⟩:=(hL.gr gall).get hx;have hxo:=hls x (get_mem hx);have hts:=take_snoc hx;have hbd:=demI_bd hal h8 hxo;have hgv:=giv_nonneg (rowI_ok h) x;have hgl:=giv_le (rowI_ok h) hxo.1;have hxo2:=hxo.2;have hk1:=fun w' (g:Gr w w') => kids1_any lb a l c x w' (hl.gr g) (hk x hxo) (by rw [g.cells.1 lb 0 hlb];exact hc)
   have hbo:=fun w' => bound_yes s x w' h hxo
   obtain ⟨v,hv⟩:∃ v,v = decide (demI l x≤givI (rowI s) x):=⟨_,rfl⟩
   have hnext:(ls.take (k + 1)).all (fun l' => decide (demI l l'≤givI (rowI s) l')) = v:=by
    rw [hts,List.all_append,hall.out,hv];simp
   have hno:v = false→ls.all (fun l' => decide (demI l l'≤givI (rowI s) l')) = false:=fun hvf => by
    cases hh:ls.all (fun l' => decide (demI l l'≤givI (rowI s) l')) with
    | false => rfl
    | true =>
     have:=List.all_eq_true.1 hh x (get_mem hx);rw [← hv,hvf] at this;cases this
   obtain ⟨hbd1,hbd2⟩:=hbd;replace hnext:=Lib.hid hnext;replace hno:=Lib.hid hno;replace hk1:=Lib.hid hk1;replace hbo:=Lib.hid hbo;clear hts;replace hx:=Lib.hid hx;replace hxo:=Lib.hid hxo;cases v with
   | true =>
    have hle:demI l x≤givI (rowI s) x:=of_decide_eq_true hv.symm;clear hv;go_wp2_with fail;refine (hk1.out wr gall).mono ?_;rintro e w2 ⟨rfl,g2⟩;obtain ⟨c2,f2,s2⟩:=g2.cells;have k2:=fun o => c2 w.heap.size o (by omega)
    clear c2 f2;go_wp2_with fail;refine (hbo.out _).mono ?_;rintro e w3 ⟨rfl,g3⟩;go_wp2_with fail;go_roundw;case rel => exact ⟨k + 1,by omega,by go_num,hnext.out,(hg.trans g2).trans g3⟩
    case measure => simp [intOf];omega
   | false =>
    have hle:givI (rowI s) x < demI l x:=by have:=of_decide_eq_false hv.symm;omega
    clear hv;go_wp2_with fail;refine (hk1.out wr gall).mono ?_;rintro e w2 ⟨rfl,g2⟩;obtain ⟨c2,f2,s2⟩:=g2.cells;have k2:=fun o => c2 w.heap.size o (by omega)
    clear c2 f2;go_wp2_with fail;refine (hbo.out _).mono ?_;rintro e w3 ⟨rfl,g3⟩;go_wp2_with fail;go_ret;exact ⟨retb (hno.out trivial).symm,(gall.trans g2).trans g3⟩
  ·have hall2:ls.take k = ls:=List.take_of_length_le (by omega);rw [hall2] at hall;go_wp2_with fail;go_ret;exact ⟨retb hall.out.symm,gall⟩
end Go.Proofs.YtdfelohjdkcpkaaGreatDoor
namespace Go.Proofs.YtdfelohjdkcpkaaGreatDoor
open Go.RowKit
def sumQ (l:List Srv):Int:=sumI (fun s => s.q) l
def kidsB (s:Srv) (l:List Srv):Bool:=lineB s (shareS l) (2 * sumQ l) && belowB s (stepsL l 4096) (demI l)
theorem sumQ_bd {l:List Srv} (h:allLeg l = true) (h8:l.length≤8) (k:Nat):0≤sumQ (l.take k)∧sumQ (l.take k)≤2048:=by
 have:=sumI_bd (fun s:Srv => s.q) (l.take k) 256 (fun x hx => by
  have:=(Srv.leg_iff _).1 (List.all_eq_true.1 h x (List.mem_of_mem_take hx));omega)
 have h2:(l.take k).length≤8:=by rw [List.length_take];omega
 unfold sumQ;omega
theorem stepsL_ok (l:List Srv) (n:Nat):∀ x ∈ stepsL l n,1≤x∧x≤n:=by
 induction n with
 | zero => intro x hx;cases hx
 | succ n ih =>
  intro x hx;rw [stepsL,List.mem_append] at hx;rcases hx with hx | hx
  ·have:=ih x hx;omega
  ·split at hx
   ·rw [List.mem_singleton.1 hx];omega
   ·cases hx
set_option maxRecDepth 100000 in
set_option maxHeartbeats 3200000 in
theorem kids_yes {G:List Nat} {E:Nat→Addr} (s:Srv) (a:Option Addr) (l:List Srv) (c:Nat) (w:World) (hE:EAt G E w) (i0:9 ∈ G) (h:parOk s = true) (hl:SrvsAt w a l) (hal:allLeg l = true) (h8:l.length≤8) (hck:∀ x,LenOk x→chkS l x = none) (hse:srvErr l = none) (hsh:Shr (shareS l)) (hb:kidsB s l = true) :
 Calls Tryz.prog 163 #[.agg #[.int .i64 s.k,.int .i64 s.q,.int .i64 s.t],.slice a l.length c] w fun e w' => e = .returned .nilIface∧Gr w w':=by
 have hsi:=fun w => silence_yes s w h
 have hsv:=fun w' (g:Gr w w') => servers_yes a l c w' (hl.gr g) hal h8
 unfold kidsB at hb;rw [Bool.and_eq_true] at hb;obtain ⟨hb1,hb2⟩:=hb;have hq:=sumQ_bd hal h8 l.length;rw [List.take_length] at hq;obtain ⟨hq1,hq2⟩:=hq;have hln:=fun w' (g:Gr w w') => line_any s (shareS l) (2 * sumQ l) w' (hE.gr g) i0 h hsh (by omega) (by omega)
 rw [hb1] at hln;have hst:=fun w' (g:Gr w w') => steps_yes a l c 4096 4096 w' (hl.gr g) hse (hck 0 ⟨by omega,by omega⟩) hal h8 (by decide) (by decide) (by decide)
 have hbl:=fun aL cL w' lb (g:Gr w w') hL hc => below_kids s aL (stepsL l 4096) cL lb a l c w' h hL (stepsL_len l 4096) (fun x hx => by have:=stepsL_ok l 4096 x hx;exact ⟨by omega,by omega⟩) (hl.gr g) hck hal h8 hc
 rw [hb2] at hbl;have hQ:=sumQ_bd hal h8;replace hsi:=Lib.hid hsi;replace hsv:=Lib.hid hsv;replace hln:=Lib.hid hln;replace hst:=Lib.hid hst;replace hbl:=Lib.hid hbl;replace hQ:=Lib.hid hQ;replace hal:=Lib.hid hal;replace hck:=Lib.hid hck;replace hse:=Lib.hid hse;replace hsh:=Lib.hid hsh;replace hb1:=Lib.hid hb1;replace hb2:=Lib.hid hb2;replace h:=Lib.hid h;go_enter Tryz.func163,Tryz.ntmps163;go_wp2_with fail;refine (hsi.out _).mono ?_;rintro e w1 ⟨rfl,g1⟩;obtain ⟨c1,f1,s1⟩:=g1.cells;try simp only [size_drewN] at c1 f1 s1
 try simp only [World.size_alloc] at c1 f1 s1
 try simp only [World.size_drew] at c1 f1 s1
 try simp only [World.size_setCell] at c1 f1 s1
 have z10:w.heap.size < w1.heap.size:=by omega
 have y10:w.heap.size≤w1.heap.size:=by omega
 have k10:=fun o => c1 (w.heap.size) o (by omega)
 have j10:=fun o => f1 (w.heap.size) o (by omega)
 have z11:w.heap.size + 1 < w1.heap.size:=by omega
 have k11:=fun o => c1 (w.heap.size + 1) o (by omega)
 have j11:=fun o => f1 (w.heap.size + 1) o (by omega)
 go_wp2_with fail;have gA:Gr w w1:=(((Gr.refl w).alloc _).alloc _).trans g1;go_wp2_with fail;refine (hsv.out _ gA).mono ?_;rintro e w2 ⟨rfl,g2⟩;obtain ⟨c2,f2,s2⟩:=g2.cells;try simp only [size_drewN] at c2 f2 s2
 try simp only [World.size_alloc] at c2 f2 s2
 try simp only [World.size_drew] at c2 f2 s2
 try simp only [World.size_setCell] at c2 f2 s2
 have z20:w.heap.size < w2.heap.size:=by omega
 have y20:w.heap.size≤w2.heap.size:=by omega
 have k20:=fun o => c2 (w.heap.size) o (by omega)
 have j20:=fun o => f2 (w.heap.size) o (by omega)
 have z21:w.heap.size + 1 < w2.heap.size:=by omega
 have k21:=fun o => c2 (w.heap.size + 1) o (by omega)
 have j21:=fun o => f2 (w.heap.size + 1) o (by omega)
 go_wp2_with fail;have gB:=gA.trans g2;go_loopw [31,9] (fun iv nv wr => ∃ k:Nat,k≤l.length∧iv = .int .i64 k∧nv = .int .i64 (sumQ (l.take k))∧Gr (w2.alloc (.cells #[.int .u64 (hiW (shareS l).1),.int .u64 (loW (shareS l).1),.int .u64 (hiW (shareS l).2),.int .u64 (loW (shareS l).2)] 195)) wr) (fun iv _ _ => l.length - (intOf iv).toNat);case atStart => exact ⟨0,Nat.zero_le _,rfl,rfl,Gr.refl _⟩
 case round =>
  obtain ⟨k,hk,rfl,rfl,hg⟩:=hrel;obtain ⟨cg,fg,sg⟩:=hg.cells;simp only [World.size_alloc] at cg fg sg;have k1:=fun o => cg w.heap.size o (by omega)
  have k2:=fun o => cg (w.heap.size + 1) o (by omega)
  have k3:=fun o => cg w2.heap.size o (by omega)
  clear cg fg;have gall:Gr w wr:=(gB.alloc _).trans hg;by_cases hlt:k < l.length
  ·obtain ⟨x,hx⟩:=get_some l k hlt;obtain ⟨b,off,rfl,hb,d0,d1,d2⟩:=(hl.gr gall) k x hx;have hq1:=hQ.out k;have hq2:=hQ.out (k + 1);have hnext:sumQ (l.take (k + 1)) = sumQ (l.take k) + x.q:=by unfold sumQ;rw [take_snoc hx,sumI_snoc]
   rw [hnext] at hq2;obtain ⟨q1,q2⟩:=hq1;obtain ⟨q3,q4⟩:=hq2;replace hnext:=Lib.hid hnext;replace hx:=Lib.hid hx;go_wp2_with fail;go_roundw;case rel => exact ⟨k + 1,by omega,by go_num,by rw [hnext.out],hg.trans ((Gr.refl _).alloc _)⟩
   case measure => simp [intOf];omega
  ·have hall:l.take k = l:=List.take_of_length_le (by omega);rw [hall];have hs1:IntKind.i64.wrap (2 * sumQ l) = 2 * sumQ l:=by rw [IntKind.wrap_i64];omega
   go_wp2_with fail;have c0:wr.cell? ⟨w.heap.size,0,none⟩ = some (.int .i64 s.k):=by simp (maxDischargeDepth:=8) [go_sem, *]
   have c1:wr.cell? ⟨w.heap.size,1,none⟩ = some (.int .i64 s.q):=by simp (maxDischargeDepth:=8) [go_sem, *]
   have c2:wr.cell? ⟨w.heap.size,2,none⟩ = some (.int .i64 s.t):=by simp (maxDischargeDepth:=8) [go_sem, *]
   have c3:wr.cell? ⟨w.heap.size + 1,0,none⟩ = some (.slice a l.length c):=by simp (maxDischargeDepth:=8) [go_sem, *]
   have z1:w.heap.size < wr.heap.size:=by omega
   have z2:w.heap.size + 1 < wr.heap.size:=by omega
   go_region_held3 (fun w' => w'.cell? ⟨w.heap.size,0,none⟩ = some (.int .i64 s.k)∧w'.cell? ⟨w.heap.size,1,none⟩ = some (.int .i64 s.q)∧w'.cell? ⟨w.heap.size,2,none⟩ = some (.int .i64 s.t)∧w'.cell? ⟨w.heap.size + 1,0,none⟩ = some (.slice a l.length c)∧w'.cell? ⟨w2.heap.size,0,none⟩ = some (.int .u64 (hiW (shareS l).1))∧w'.cell? ⟨w2.heap.size,1,none⟩ = some (.int .u64 (loW (shareS l).1))∧w'.cell? ⟨w2.heap.size,2,none⟩ = some (.int .u64 (hiW (shareS l).2))∧w'.cell? ⟨w2.heap.size,3,none⟩ = some (.int .u64 (loW (shareS l).2))) (simp (maxDischargeDepth:=8) [go_sem, *])
    (first
     | (go_at_call 201;(with_reducible refine (hln.out _ (gall.drew)).mono ?_);rintro e w4 ⟨rfl,g4⟩;obtain ⟨c4,f4,s4⟩:=g4.cells;simp only [World.size_drew] at c4 f4 s4;have k4:=fun o => c4 w.heap.size o (by omega);have k5:=fun o => c4 (w.heap.size + 1) o (by omega);have k6:=fun o => c4 w2.heap.size o (by omega);clear c4 f4;have gall4:=(gall.drew).trans g4;replace gall4:=Lib.hid gall4)
     | (go_at_call 203;(with_reducible refine (hst.out _ gall4.out).mono ?_);rintro e w5 ⟨aS,cS,rfl,hS,g5⟩;obtain ⟨c5,f5,s5⟩:=g5.cells;have k7:=fun o => c5 w.heap.size o (by omega);have k8:=fun o => c5 (w.heap.size + 1) o (by omega);have k9:=fun o => c5 w2.heap.size o (by omega);clear c5 f5;have gall5:=gall4.out.trans g5;replace gall5:=Lib.hid gall5;replace hS:=Lib.hid hS)
     | (go_at_call 202;(with_reducible refine (hbl.out aS cS _ (w.heap.size + 1) gall5.out hS.out (by simp (maxDischargeDepth:=8) [go_sem, *])).mono ?_);rintro e w6 ⟨rfl,g6⟩;obtain ⟨c6,f6,s6⟩:=g6.cells;have k10:=fun o => c6 w.heap.size o (by omega);have k11:=fun o => c6 (w.heap.size + 1) o (by omega);have k12:=fun o => c6 w2.heap.size o (by omega);clear c6 f6;have gall6:=gall5.out.trans g6;replace gall6:=Lib.hid gall6)
     | fail)
   all_goals go_wp2_with fail
   all_goals go_ret
   all_goals exact ⟨rfl,gall6.out⟩
set_option maxRecDepth 100000 in
set_option maxHeartbeats 3200000 in
theorem kids_over {G:List Nat} {E:Nat→Addr} (s:Srv) (a:Option Addr) (l:List Srv) (c:Nat) (w:World) (hE:EAt G E w) (i0:9 ∈ G) (h:parOk s = true) (hl:SrvsAt w a l) (hal:allLeg l = true) (h8:l.length≤8) (hck:∀ x,LenOk x→chkS l x = none) (hse:srvErr l = none) (hsh:Shr (shareS l)) (i1:11 ∈ G) (hb1:lineB s (shareS l) (2 * sumQ l) = true) (hb2:belowB s (stepsL l 4096) (demI l) = false) :
 Calls Tryz.prog 163 #[.agg #[.int .i64 s.k,.int .i64 s.q,.int .i64 s.t],.slice a l.length c] w fun e w' => e = .returned (Value.iface 384 (.pointer (some (E 11))))∧Gr w w':=by
 have hsi:=fun w => silence_yes s w h
 have hsv:=fun w' (g:Gr w w') => servers_yes a l c w' (hl.gr g) hal h8
 have hq:=sumQ_bd hal h8 l.length;rw [List.take_length] at hq;obtain ⟨hq1,hq2⟩:=hq;have hln:=fun w' (g:Gr w w') => line_any s (shareS l) (2 * sumQ l) w' (hE.gr g) i0 h hsh (by omega) (by omega)
 rw [hb1] at hln;have hst:=fun w' (g:Gr w w') => steps_yes a l c 4096 4096 w' (hl.gr g) hse (hck 0 ⟨by omega,by omega⟩) hal h8 (by decide) (by decide) (by decide)
 have hbl:=fun aL cL w' lb (g:Gr w w') hL hc => below_kids s aL (stepsL l 4096) cL lb a l c w' h hL (stepsL_len l 4096) (fun x hx => by have:=stepsL_ok l 4096 x hx;exact ⟨by omega,by omega⟩) (hl.gr g) hck hal h8 hc
 rw [hb2] at hbl;have hQ:=sumQ_bd hal h8;replace hsi:=Lib.hid hsi;replace hsv:=Lib.hid hsv;replace hln:=Lib.hid hln;replace hst:=Lib.hid hst;replace hbl:=Lib.hid hbl;replace hQ:=Lib.hid hQ;replace hal:=Lib.hid hal;replace hck:=Lib.hid hck;replace hse:=Lib.hid hse;replace hsh:=Lib.hid hsh;replace hb1:=Lib.hid hb1;replace hb2:=Lib.hid hb2;replace h:=Lib.hid h;go_enter Tryz.func163,Tryz.ntmps163;go_wp2_with fail;refine (hsi.out _).mono ?_;rintro e w1 ⟨rfl,g1⟩;obtain ⟨c1,f1,s1⟩:=g1.cells;try simp only [size_drewN] at c1 f1 s1
 try simp only [World.size_alloc] at c1 f1 s1
 try simp only [World.size_drew] at c1 f1 s1
 try simp only [World.size_setCell] at c1 f1 s1
 have z10:w.heap.size < w1.heap.size:=by omega
 have y10:w.heap.size≤w1.heap.size:=by omega
 have k10:=fun o => c1 (w.heap.size) o (by omega)
 have j10:=fun o => f1 (w.heap.size) o (by omega)
 have z11:w.heap.size + 1 < w1.heap.size:=by omega
 have k11:=fun o => c1 (w.heap.size + 1) o (by omega)
 have j11:=fun o => f1 (w.heap.size + 1) o (by omega)
 go_wp2_with fail;have gA:Gr w w1:=(((Gr.refl w).alloc _).alloc _).trans g1;go_wp2_with fail;refine (hsv.out _ gA).mono ?_;rintro e w2 ⟨rfl,g2⟩;obtain ⟨c2,f2,s2⟩:=g2.cells;try simp only [size_drewN] at c2 f2 s2
 try simp only [World.size_alloc] at c2 f2 s2
 try simp only [World.size_drew] at c2 f2 s2
 try simp only [World.size_setCell] at c2 f2 s2
 have z20:w.heap.size < w2.heap.size:=by omega
 have y20:w.heap.size≤w2.heap.size:=by omega
 have k20:=fun o => c2 (w.heap.size) o (by omega)
 have j20:=fun o => f2 (w.heap.size) o (by omega)
 have z21:w.heap.size + 1 < w2.heap.size:=by omega
 have k21:=fun o => c2 (w.heap.size + 1) o (by omega)
 have j21:=fun o => f2 (w.heap.size + 1) o (by omega)
 go_wp2_with fail;have gB:=gA.trans g2;go_loopw [31,9] (fun iv nv wr => ∃ k:Nat,k≤l.length∧iv = .int .i64 k∧nv = .int .i64 (sumQ (l.take k))∧Gr (w2.alloc (.cells #[.int .u64 (hiW (shareS l).1),.int .u64 (loW (shareS l).1),.int .u64 (hiW (shareS l).2),.int .u64 (loW (shareS l).2)] 195)) wr) (fun iv _ _ => l.length - (intOf iv).toNat);case atStart => exact ⟨0,Nat.zero_le _,rfl,rfl,Gr.refl _⟩
 case round =>
  obtain ⟨k,hk,rfl,rfl,hg⟩:=hrel;obtain ⟨cg,fg,sg⟩:=hg.cells;simp only [World.size_alloc] at cg fg sg;have k1:=fun o => cg w.heap.size o (by omega)
  have k2:=fun o => cg (w.heap.size + 1) o (by omega)
  have k3:=fun o => cg w2.heap.size o (by omega)
  clear cg fg;have gall:Gr w wr:=(gB.alloc _).trans hg;by_cases hlt:k < l.length
  ·obtain ⟨x,hx⟩:=get_some l k hlt;obtain ⟨b,off,rfl,hb,d0,d1,d2⟩:=(hl.gr gall) k x hx;have hq1:=hQ.out k;have hq2:=hQ.out (k + 1);have hnext:sumQ (l.take (k + 1)) = sumQ (l.take k) + x.q:=by unfold sumQ;rw [take_snoc hx,sumI_snoc]
   rw [hnext] at hq2;obtain ⟨q1,q2⟩:=hq1;obtain ⟨q3,q4⟩:=hq2;replace hnext:=Lib.hid hnext;replace hx:=Lib.hid hx;go_wp2_with fail;go_roundw;case rel => exact ⟨k + 1,by omega,by go_num,by rw [hnext.out],hg.trans ((Gr.refl _).alloc _)⟩
   case measure => simp [intOf];omega
  ·have hall:l.take k = l:=List.take_of_length_le (by omega);rw [hall];have hs1:IntKind.i64.wrap (2 * sumQ l) = 2 * sumQ l:=by rw [IntKind.wrap_i64];omega
   go_wp2_with fail;have c0:wr.cell? ⟨w.heap.size,0,none⟩ = some (.int .i64 s.k):=by simp (maxDischargeDepth:=8) [go_sem, *]
   have c1:wr.cell? ⟨w.heap.size,1,none⟩ = some (.int .i64 s.q):=by simp (maxDischargeDepth:=8) [go_sem, *]
   have c2:wr.cell? ⟨w.heap.size,2,none⟩ = some (.int .i64 s.t):=by simp (maxDischargeDepth:=8) [go_sem, *]
   have c3:wr.cell? ⟨w.heap.size + 1,0,none⟩ = some (.slice a l.length c):=by simp (maxDischargeDepth:=8) [go_sem, *]
   have z1:w.heap.size < wr.heap.size:=by omega
   have z2:w.heap.size + 1 < wr.heap.size:=by omega
   go_region_held3 (fun w' => w'.cell? ⟨w.heap.size,0,none⟩ = some (.int .i64 s.k)∧w'.cell? ⟨w.heap.size,1,none⟩ = some (.int .i64 s.q)∧w'.cell? ⟨w.heap.size,2,none⟩ = some (.int .i64 s.t)∧w'.cell? ⟨w.heap.size + 1,0,none⟩ = some (.slice a l.length c)∧w'.cell? ⟨w2.heap.size,0,none⟩ = some (.int .u64 (hiW (shareS l).1))∧w'.cell? ⟨w2.heap.size,1,none⟩ = some (.int .u64 (loW (shareS l).1))∧w'.cell? ⟨w2.heap.size,2,none⟩ = some (.int .u64 (hiW (shareS l).2))∧w'.cell? ⟨w2.heap.size,3,none⟩ = some (.int .u64 (loW (shareS l).2))) (simp (maxDischargeDepth:=8) [go_sem, *])
    (first
     | (go_at_call 201;(with_reducible refine (hln.out _ (gall.drew)).mono ?_);rintro e w4 ⟨rfl,g4⟩;obtain ⟨c4,f4,s4⟩:=g4.cells;simp only [World.size_drew] at c4 f4 s4;have k4:=fun o => c4 w.heap.size o (by omega);have k5:=fun o => c4 (w.heap.size + 1) o (by omega);have k6:=fun o => c4 w2.heap.size o (by omega);clear c4 f4;have gall4:=(gall.drew).trans g4;replace gall4:=Lib.hid gall4)
     | (go_at_call 203;(with_reducible refine (hst.out _ gall4.out).mono ?_);rintro e w5 ⟨aS,cS,rfl,hS,g5⟩;obtain ⟨c5,f5,s5⟩:=g5.cells;have k7:=fun o => c5 w.heap.size o (by omega);have k8:=fun o => c5 (w.heap.size + 1) o (by omega);have k9:=fun o => c5 w2.heap.size o (by omega);clear c5 f5;have gall5:=gall4.out.trans g5;replace gall5:=Lib.hid gall5;replace hS:=Lib.hid hS)
     | (go_at_call 202;(with_reducible refine (hbl.out aS cS _ (w.heap.size + 1) gall5.out hS.out (by simp (maxDischargeDepth:=8) [go_sem, *])).mono ?_);rintro e w6 ⟨rfl,g6⟩;obtain ⟨c6,f6,s6⟩:=g6.cells;have k10:=fun o => c6 w.heap.size o (by omega);have k11:=fun o => c6 (w.heap.size + 1) o (by omega);have k12:=fun o => c6 w2.heap.size o (by omega);clear c6 f6;have gall6:=gall5.out.trans g6;replace gall6:=Lib.hid gall6)
     | fail)
   all_goals (have he:=(hE.gr gall6.out).c0 i1)
   all_goals go_wp2_with fail
   all_goals go_ret
   all_goals exact ⟨rfl,gall6.out⟩
set_option maxRecDepth 100000 in
set_option maxHeartbeats 3200000 in
theorem kids_line {G:List Nat} {E:Nat→Addr} (s:Srv) (a:Option Addr) (l:List Srv) (c:Nat) (w:World) (hE:EAt G E w) (i0:9 ∈ G) (h:parOk s = true) (hl:SrvsAt w a l) (hal:allLeg l = true) (h8:l.length≤8) (hsh:Shr (shareS l)) (i1:11 ∈ G) (hb1:lineB s (shareS l) (2 * sumQ l) = false) :
 Calls Tryz.prog 163 #[.agg #[.int .i64 s.k,.int .i64 s.q,.int .i64 s.t],.slice a l.length c] w fun e w' => e = .returned (Value.iface 384 (.pointer (some (E 11))))∧Gr w w':=by
 have hsi:=fun w => silence_yes s w h
 have hsv:=fun w' (g:Gr w w') => servers_yes a l c w' (hl.gr g) hal h8
 have hq:=sumQ_bd hal h8 l.length;rw [List.take_length] at hq;obtain ⟨hq1,hq2⟩:=hq;have hln:=fun w' (g:Gr w w') => line_any s (shareS l) (2 * sumQ l) w' (hE.gr g) i0 h hsh (by omega) (by omega)
 rw [hb1] at hln;have hQ:=sumQ_bd hal h8;replace hsi:=Lib.hid hsi;replace hsv:=Lib.hid hsv;replace hln:=Lib.hid hln;replace hQ:=Lib.hid hQ;replace hal:=Lib.hid hal;replace hsh:=Lib.hid hsh;replace hb1:=Lib.hid hb1;replace h:=Lib.hid h;go_enter Tryz.func163,Tryz.ntmps163;go_wp2_with fail;refine (hsi.out _).mono ?_;rintro e w1 ⟨rfl,g1⟩;obtain ⟨c1,f1,s1⟩:=g1.cells;try simp only [size_drewN] at c1 f1 s1
 try simp only [World.size_alloc] at c1 f1 s1
 try simp only [World.size_drew] at c1 f1 s1
 try simp only [World.size_setCell] at c1 f1 s1
 have z10:w.heap.size < w1.heap.size:=by omega
 have y10:w.heap.size≤w1.heap.size:=by omega
 have k10:=fun o => c1 (w.heap.size) o (by omega)
 have j10:=fun o => f1 (w.heap.size) o (by omega)
 have z11:w.heap.size + 1 < w1.heap.size:=by omega
 have k11:=fun o => c1 (w.heap.size + 1) o (by omega)
 have j11:=fun o => f1 (w.heap.size + 1) o (by omega)
 go_wp2_with fail;have gA:Gr w w1:=(((Gr.refl w).alloc _).alloc _).trans g1;go_wp2_with fail;refine (hsv.out _ gA).mono ?_;rintro e w2 ⟨rfl,g2⟩;obtain ⟨c2,f2,s2⟩:=g2.cells;try simp only [size_drewN] at c2 f2 s2
 try simp only [World.size_alloc] at c2 f2 s2
 try simp only [World.size_drew] at c2 f2 s2
 try simp only [World.size_setCell] at c2 f2 s2
 have z20:w.heap.size < w2.heap.size:=by omega
 have y20:w.heap.size≤w2.heap.size:=by omega
 have k20:=fun o => c2 (w.heap.size) o (by omega)
 have j20:=fun o => f2 (w.heap.size) o (by omega)
 have z21:w.heap.size + 1 < w2.heap.size:=by omega
 have k21:=fun o => c2 (w.heap.size + 1) o (by omega)
 have j21:=fun o => f2 (w.heap.size + 1) o (by omega)
 go_wp2_with fail;have gB:=gA.trans g2;go_loopw [31,9] (fun iv nv wr => ∃ k:Nat,k≤l.length∧iv = .int .i64 k∧nv = .int .i64 (sumQ (l.take k))∧Gr (w2.alloc (.cells #[.int .u64 (hiW (shareS l).1),.int .u64 (loW (shareS l).1),.int .u64 (hiW (shareS l).2),.int .u64 (loW (shareS l).2)] 195)) wr) (fun iv _ _ => l.length - (intOf iv).toNat);case atStart => exact ⟨0,Nat.zero_le _,rfl,rfl,Gr.refl _⟩
 case round =>
  obtain ⟨k,hk,rfl,rfl,hg⟩:=hrel;obtain ⟨cg,fg,sg⟩:=hg.cells;simp only [World.size_alloc] at cg fg sg;have k1:=fun o => cg w.heap.size o (by omega)
  have k2:=fun o => cg (w.heap.size + 1) o (by omega)
  have k3:=fun o => cg w2.heap.size o (by omega)
  clear cg fg;have gall:Gr w wr:=(gB.alloc _).trans hg;by_cases hlt:k < l.length
  ·obtain ⟨x,hx⟩:=get_some l k hlt;obtain ⟨b,off,rfl,hb,d0,d1,d2⟩:=(hl.gr gall) k x hx;have hq1:=hQ.out k;have hq2:=hQ.out (k + 1);have hnext:sumQ (l.take (k + 1)) = sumQ (l.take k) + x.q:=by unfold sumQ;rw [take_snoc hx,sumI_snoc]
   rw [hnext] at hq2;obtain ⟨q1,q2⟩:=hq1;obtain ⟨q3,q4⟩:=hq2;replace hnext:=Lib.hid hnext;replace hx:=Lib.hid hx;go_wp2_with fail;go_roundw;case rel => exact ⟨k + 1,by omega,by go_num,by rw [hnext.out],hg.trans ((Gr.refl _).alloc _)⟩
   case measure => simp [intOf];omega
  ·have hall:l.take k = l:=List.take_of_length_le (by omega);rw [hall];have hs1:IntKind.i64.wrap (2 * sumQ l) = 2 * sumQ l:=by rw [IntKind.wrap_i64];omega
   go_wp2_with fail;have c0:wr.cell? ⟨w.heap.size,0,none⟩ = some (.int .i64 s.k):=by simp (maxDischargeDepth:=8) [go_sem, *]
   have c1:wr.cell? ⟨w.heap.size,1,none⟩ = some (.int .i64 s.q):=by simp (maxDischargeDepth:=8) [go_sem, *]
   have c2:wr.cell? ⟨w.heap.size,2,none⟩ = some (.int .i64 s.t):=by simp (maxDischargeDepth:=8) [go_sem, *]
   have c3:wr.cell? ⟨w.heap.size + 1,0,none⟩ = some (.slice a l.length c):=by simp (maxDischargeDepth:=8) [go_sem, *]
   have z1:w.heap.size < wr.heap.size:=by omega
   have z2:w.heap.size + 1 < wr.heap.size:=by omega
   have c4:wr.cell? ⟨w2.heap.size,0,none⟩ = some (.int .u64 (hiW (shareS l).1)):=by simp (maxDischargeDepth:=8) [go_sem, *]
   have c5:wr.cell? ⟨w2.heap.size,1,none⟩ = some (.int .u64 (loW (shareS l).1)):=by simp (maxDischargeDepth:=8) [go_sem, *]
   have c6:wr.cell? ⟨w2.heap.size,2,none⟩ = some (.int .u64 (hiW (shareS l).2)):=by simp (maxDischargeDepth:=8) [go_sem, *]
   have c7:wr.cell? ⟨w2.heap.size,3,none⟩ = some (.int .u64 (loW (shareS l).2)):=by simp (maxDischargeDepth:=8) [go_sem, *]
   have q0:=GrW.cell c0;have q1:=GrW.cell c1;have q2:=GrW.cell c2;have q4:=GrW.cell c4;have q5:=GrW.cell c5;have q6:=GrW.cell c6;have q7:=GrW.cell c7;refine wp_region_grows (by kernel_rfl) (by kernel_rfl) ?_;repeat (any_goals (first | go_big_quiet_step (first | (exact Calls.grows (hln.out _ (gall.trans (by exact GrW.gr _))))) | quiet_step (first | (exact Calls.grows (hln.out _ (gall.trans (by exact GrW.gr _)))))))
   refine wpQuiet_nil ?_;intro wp hwq;have gp:=GrW.of hwq;clear hwq;obtain ⟨cp,fp,sp⟩:=gp.cells;try simp only [size_drewN] at cp fp sp
   try simp only [World.size_alloc] at cp fp sp
   try simp only [World.size_drew] at cp fp sp
   try simp only [World.size_setCell] at cp fp sp
   have he:=(hE.gr (gall.trans gp)).c0 i1;go_wp2_with fail;go_ret;exact ⟨rfl,gall.trans gp⟩
def kidsErr (s:Srv) (l:List Srv):Option Nat:=if parOk s = false then some 9 else match srvErr l with
 | some g => some g
 | none => if kidsB s l = true then none else some 11
set_option maxRecDepth 100000 in
set_option maxHeartbeats 1600000 in
theorem kids_par {G:List Nat} {E:Nat→Addr} (s:Srv) (a:Option Addr) (l:List Srv) (c:Nat) (w:World) (hE:EAt G E w) (i0:9 ∈ G) (h:parOk s = false) :
 Calls Tryz.prog 163 #[.agg #[.int .i64 s.k,.int .i64 s.q,.int .i64 s.t],.slice a l.length c] w fun e w' => e = .returned (Value.iface 384 (.pointer (some (E 9))))∧Gr w w':=by
 have hsi:=fun w hE => silence_no (G:=G) (E:=E) s w hE i0 h
 replace hsi:=Lib.hid hsi;replace h:=Lib.hid h;go_enter Tryz.func163,Tryz.ntmps163;go_wp2_with fail;refine (hsi.out _ (hE.gr (((Gr.refl w).alloc _).alloc _))).mono ?_;rintro e w1 ⟨rfl,g1⟩;obtain ⟨c1,f1,s1⟩:=g1.cells;try simp only [size_drewN] at c1 f1 s1
 try simp only [World.size_alloc] at c1 f1 s1
 try simp only [World.size_drew] at c1 f1 s1
 try simp only [World.size_setCell] at c1 f1 s1
 have z10:w.heap.size < w1.heap.size:=by omega
 have y10:w.heap.size≤w1.heap.size:=by omega
 have k10:=fun o => c1 (w.heap.size) o (by omega)
 have j10:=fun o => f1 (w.heap.size) o (by omega)
 have z11:w.heap.size + 1 < w1.heap.size:=by omega
 have k11:=fun o => c1 (w.heap.size + 1) o (by omega)
 have j11:=fun o => f1 (w.heap.size + 1) o (by omega)
 go_wp2_with fail;go_ret;exact ⟨rfl,(((Gr.refl w).alloc _).alloc _).trans g1⟩
set_option maxRecDepth 100000 in
set_option maxHeartbeats 1600000 in
theorem kids_srv {E:Nat→Addr} (g:Nat) (s:Srv) (a:Option Addr) (l:List Srv) (c:Nat) (w:World) (h:parOk s = true)
 (hsv:∀ w',Gr w w'→Calls Tryz.prog 200 #[.slice a l.length c] w' fun e w'' => e = .returned (.tuple #[partZ,errAt E g])∧Gr w' w'') :
 Calls Tryz.prog 163 #[.agg #[.int .i64 s.k,.int .i64 s.q,.int .i64 s.t],.slice a l.length c] w fun e w' => e = .returned (errAt E g)∧Gr w w':=by
 have hsi:=fun w => silence_yes s w h
 replace hsi:=Lib.hid hsi;replace hsv:=Lib.hid hsv;replace h:=Lib.hid h;go_enter Tryz.func163,Tryz.ntmps163;go_wp2_with fail;refine (hsi.out _).mono ?_;rintro e w1 ⟨rfl,g1⟩;obtain ⟨c1,f1,s1⟩:=g1.cells;try simp only [size_drewN] at c1 f1 s1
 try simp only [World.size_alloc] at c1 f1 s1
 try simp only [World.size_drew] at c1 f1 s1
 try simp only [World.size_setCell] at c1 f1 s1
 have z10:w.heap.size < w1.heap.size:=by omega
 have y10:w.heap.size≤w1.heap.size:=by omega
 have k10:=fun o => c1 (w.heap.size) o (by omega)
 have j10:=fun o => f1 (w.heap.size) o (by omega)
 have z11:w.heap.size + 1 < w1.heap.size:=by omega
 have k11:=fun o => c1 (w.heap.size + 1) o (by omega)
 have j11:=fun o => f1 (w.heap.size + 1) o (by omega)
 go_wp2_with fail;have gA:Gr w w1:=(((Gr.refl w).alloc _).alloc _).trans g1;go_wp2_with fail;refine (hsv.out _ gA).mono ?_;rintro e w2 ⟨rfl,g2⟩;obtain ⟨c2,f2,s2⟩:=g2.cells;try simp only [size_drewN] at c2 f2 s2
 try simp only [World.size_alloc] at c2 f2 s2
 try simp only [World.size_drew] at c2 f2 s2
 try simp only [World.size_setCell] at c2 f2 s2
 have z20:w.heap.size < w2.heap.size:=by omega
 have y20:w.heap.size≤w2.heap.size:=by omega
 have k20:=fun o => c2 (w.heap.size) o (by omega)
 have j20:=fun o => f2 (w.heap.size) o (by omega)
 have z21:w.heap.size + 1 < w2.heap.size:=by omega
 have k21:=fun o => c2 (w.heap.size + 1) o (by omega)
 have j21:=fun o => f2 (w.heap.size + 1) o (by omega)
 go_wp2_with fail;go_ret;exact ⟨rfl,(gA.trans g2).alloc _⟩
theorem srvErr_chk {l:List Srv} {n:Int} (h:srvErr l = none) (hn:LenOk n):chkS l n = none:=by
 unfold srvErr at h;unfold chkS;obtain ⟨h1,h2⟩:=hn;split at h
 ·cases h
 ·rename_i h3;rw [if_neg h3];split at h
  ·cases h
  ·rename_i h4;rw [if_neg h4,if_neg (by omega)]
theorem srvErr_none {l:List Srv} (h:srvErr l = none):allLeg l = true∧l.length≤8:=by
 unfold srvErr at h;split at h
 ·cases h
 ·rename_i h3;split at h
  ·cases h
  ·rename_i h4;exact ⟨by simpa using h3,by omega⟩
theorem kids_any {G:List Nat} {E:Nat→Addr} (s:Srv) (a:Option Addr) (l:List Srv) (c:Nat) (w:World) (hE:EAt G E w) (i0:9 ∈ G) (i1:11 ∈ G) (i3:6 ∈ G) (hl:SrvsAt w a l) (hm:l.length≤maxLen) :
 Calls Tryz.prog 163 #[.agg #[.int .i64 s.k,.int .i64 s.q,.int .i64 s.t],.slice a l.length c] w fun e w' => e = .returned (errV E (kidsErr s l))∧Gr w w':=by
 cases hp:parOk s with
 | false =>
  have hk:kidsErr s l = some 9:=by unfold kidsErr;rw [if_pos hp]
  rw [hk];exact kids_par s a l c w hE i0 hp
 | true =>
  cases hs:srvErr l with
  | some g =>
   have hk:kidsErr s l = some g:=by unfold kidsErr;rw [if_neg (by rw [hp];decide),hs]
   rw [hk];refine kids_srv g s a l c w hp (fun w' gw => ?_);unfold srvErr at hs;split at hs
   ·rename_i h1;obtain rfl:=Option.some.inj hs;exact servers_no a l c w' (hE.gr gw) i0 (hl.gr gw) hm h1
   ·rename_i h1;split at hs
    ·rename_i h2;obtain rfl:=Option.some.inj hs;exact servers_full a l c w' (hE.gr gw) i3 (hl.gr gw) hm (by simpa using h1) h2
    ·cases hs
  | none =>
   obtain ⟨hal,h8⟩:=srvErr_none hs;have hck:=fun x (hx:LenOk x) => srvErr_chk hs hx
   have hsh:=srvErr_shr hs;have hk:kidsErr s l = if kidsB s l = true then none else some 11:=by unfold kidsErr;rw [if_neg (by rw [hp];decide),hs]
   rw [hk];cases hb1:lineB s (shareS l) (2 * sumQ l) with
   | false =>
    rw [if_neg (by unfold kidsB;rw [hb1];simp)];exact kids_line s a l c w hE i0 hp hl hal h8 hsh i1 hb1
   | true =>
    cases hb2:belowB s (stepsL l 4096) (demI l) with
    | false =>
     rw [if_neg (by unfold kidsB;rw [hb2];simp)];exact kids_over s a l c w hE i0 hp hl hal h8 hck hs hsh i1 hb1 hb2
    | true =>
     have hb:kidsB s l = true:=by unfold kidsB;rw [hb1,hb2];rfl
     rw [if_pos hb];exact kids_yes s a l c w hE i0 hp hl hal h8 hck hs hsh hb
end Go.Proofs.YtdfelohjdkcpkaaGreatDoor
