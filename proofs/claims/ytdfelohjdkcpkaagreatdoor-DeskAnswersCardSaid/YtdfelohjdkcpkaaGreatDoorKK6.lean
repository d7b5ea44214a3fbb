/- admit: line, below (of servers), Kids. -/
import Derived.Test.YtdfelohjdkcpkaaGreatDoorKK5
set_option maxRecDepth 100000
set_option maxHeartbeats 3200000
namespace Go.Proofs.YtdfelohjdkcpkaaGreatDoor
open Go.RowKit
def DG (r:Jx):Int:=r.gap + r.t - r.q
def BU (s:Ao) (p:Int × Int) (more:Int):Bool:=decide (ND none p s < 0) && decide (BS ((p.1 * 4096 + p.2 * more) * (Ak s).t) (p.2 * ((Ak s).q * (4096 - DG (Ak s))))≤0)
theorem I1 (s:Ao):OJ none s = AE s:=by
 unfold OJ AE BK;rfl
theorem DL {G:List Nat} {E:Nat→Addr} (s:Ao) (p:Int × Int) (more:Int) (w:World) (hE:CK G E w) (i0:9 ∈ G) (h:AE s = true) (hp:Nz p) (m0:0≤more) (m1:more≤4096) :
 Calls Tryz.prog 201 #[.agg #[.int .i64 s.k,.int .i64 s.q,.int .i64 s.t],Eg p,.int .i64 more] w fun e w' => e = .returned (.bool (BU s p more))∧Gr w w':=by
 have hsl:=fun w => Mn s w h
 have hwi:=fun w (g:CK G E w) => J5 none p s w g i0 (fun _ => hp)
 rw [I1,h] at hwi;have hr:=Be h;obtain ⟨g0,g1,q1,qt,t2⟩:=hr;obtain ⟨p1,p2,p3,p4⟩:=hp;have wp1:BC p.1:=⟨p1,by omega⟩
 have wp2:BC p.2:=⟨by omega,by omega⟩
 have b1:=Cw p1 p2 (show (0:Int)≤4096 by decide) (show (4096:Int)≤4096 by decide);have b2:=Cw (show 0≤p.2 by omega) p4 m0 m1;have wm1:BC (p.1 * 4096):=⟨b1.1,by omega⟩
 have wm2:BC (p.2 * more):=⟨b2.1,by omega⟩
 have was:BC (p.1 * 4096 + p.2 * more):=⟨by omega,by omega⟩
 have b3:=Cw (show 0≤p.1 * 4096 + p.2 * more by omega) (show p.1 * 4096 + p.2 * more≤40000 * 18446744073709551616 by omega) (show 0≤(Ak s).t by omega) t2;have b4:=Cw (show 0≤(Ak s).q by omega) (show (Ak s).q≤256 by omega) (show 0≤4096 - DG (Ak s) by unfold DG;omega) (show 4096 - DG (Ak s)≤4096 by unfold DG;omega);have b5:=Cw (show 0≤p.2 by omega) p4 b4.1 (show (Ak s).q * (4096 - DG (Ak s))≤1048576 by omega);have hag:=fun w => Gu (p.1 * 4096 + p.2 * more) p.2 ((Ak s).q * (4096 - DG (Ak s))) (Ak s).t w was wp2 (by omega) b4.1 (by omega) (by omega) (by omega) ⟨b3.1,by omega⟩ ⟨b5.1,by omega⟩
 have hm1:=fun w => D7 p.1 4096 w wp1 ⟨by omega,by omega⟩ wm1
 have hm2:=fun w => D7 p.2 more w wp2 ⟨m0,by omega⟩ wm2
 have had:=fun w => L8 (p.1 * 4096) (p.2 * more) w wm1 wm2 was
 obtain ⟨v4,hv4⟩:∃ v,v = (Ak s).q * (4096 - DG (Ak s)):=⟨_,rfl⟩
 unfold DG at *;unfold BU DG;refine Fm ?_ hsl hwi hag hm1 hm2 had h;clear hsl hwi hag hm1 hm2 had h;intro hsl hwi hag hm1 hm2 had h;obtain ⟨b41,b42⟩:=b4;clear b1 b2 b3 b5 wp1 wp2 wm1 wm2 was p1 p2 p3 p4 hv4;by_cases hc:ND none p s < 0
 ·rw [decide_eq_true hc,Bool.true_and];obtain ⟨c,hcc⟩:=zE (BS ((p.1 * 4096 + p.2 * more) * (Ak s).t) (p.2 * ((Ak s).q * (4096 - ((Ak s).gap + (Ak s).t - (Ak s).q)))));rw [← hcc] at hag ⊢;replace hcc:=zH hcc;go_enter Tryz.func201,Tryz.ntmps201;go_wp2_with fail;refine (hsl.out _).mono ?_;rintro e wa ⟨rfl,ga⟩;obtain ⟨ca,fa,sa⟩:=ga.cells;try simp only [Aa] at ca fa sa
  try simp only [zL] at ca fa sa
  try simp only [zD] at ca fa sa
  try simp only [zS] at ca fa sa
  have za0:w.heap.size < wa.heap.size:=by omega
  have ya0:w.heap.size≤wa.heap.size:=by omega
  have ka0:=fun o => ca (w.heap.size) o (by omega)
  have ja0:=fun o => fa (w.heap.size) o (by omega)
  have za1:w.heap.size + 1 < wa.heap.size:=by omega
  have ka1:=fun o => ca (w.heap.size + 1) o (by omega)
  have ja1:=fun o => fa (w.heap.size + 1) o (by omega)
  go_wp2_with fail;go_wp2_with fail;refine (hwi.out _ (hE.gr ((((Gr.refl w).alloc _).alloc _).trans ga))).mono ?_;rintro e wb ⟨rfl,gb⟩;obtain ⟨cb,fb,sb⟩:=gb.cells;try simp only [Aa] at cb fb sb
  try simp only [zL] at cb fb sb
  try simp only [zD] at cb fb sb
  try simp only [zS] at cb fb sb
  have zb0:w.heap.size < wb.heap.size:=by omega
  have yb0:w.heap.size≤wb.heap.size:=by omega
  have kb0:=fun o => cb (w.heap.size) o (by omega)
  have jb0:=fun o => fb (w.heap.size) o (by omega)
  have zb1:w.heap.size + 1 < wb.heap.size:=by omega
  have kb1:=fun o => cb (w.heap.size + 1) o (by omega)
  have jb1:=fun o => fb (w.heap.size + 1) o (by omega)
  go_wp2_with fail;go_wp2_with fail;refine (hm1.out _).mono ?_;rintro e wd ⟨rfl,gd⟩;obtain ⟨cd,fd,sd⟩:=gd.cells;try simp only [Aa] at cd fd sd
  try simp only [zL] at cd fd sd
  try simp only [zD] at cd fd sd
  try simp only [zS] at cd fd sd
  have zd0:w.heap.size < wd.heap.size:=by omega
  have yd0:w.heap.size≤wd.heap.size:=by omega
  have kd0:=fun o => cd (w.heap.size) o (by omega)
  have jd0:=fun o => fd (w.heap.size) o (by omega)
  have zd1:w.heap.size + 1 < wd.heap.size:=by omega
  have kd1:=fun o => cd (w.heap.size + 1) o (by omega)
  have jd1:=fun o => fd (w.heap.size + 1) o (by omega)
  go_wp2_with fail;go_wp2_with fail;refine (hm2.out _).mono ?_;rintro e we ⟨rfl,ge⟩;obtain ⟨ce,fe,se⟩:=ge.cells;try simp only [Aa] at ce fe se
  try simp only [zL] at ce fe se
  try simp only [zD] at ce fe se
  try simp only [zS] at ce fe se
  have ze0:w.heap.size + 1 < we.heap.size:=by omega
  have ke0:=fun o => ce (w.heap.size + 1) o (by omega)
  have je0:=fun o => fe (w.heap.size + 1) o (by omega)
  have ze1:wd.heap.size < we.heap.size:=by omega
  have ye1:wd.heap.size≤we.heap.size:=by omega
  have ke1:=fun o => ce (wd.heap.size) o (by omega)
  have je1:=fun o => fe (wd.heap.size) o (by omega)
  go_wp2_with fail;go_wp2_with fail;refine (had.out _).mono ?_;rintro e wf ⟨rfl,gf⟩;obtain ⟨cf,ff,sf⟩:=gf.cells;try simp only [Aa] at cf ff sf
  try simp only [zL] at cf ff sf
  try simp only [zD] at cf ff sf
  try simp only [zS] at cf ff sf
  have zf0:w.heap.size + 1 < wf.heap.size:=by omega
  have kf0:=fun o => cf (w.heap.size + 1) o (by omega)
  have jf0:=fun o => ff (w.heap.size + 1) o (by omega)
  have zf1:wd.heap.size < wf.heap.size:=by omega
  have yf1:wd.heap.size≤wf.heap.size:=by omega
  have kf1:=fun o => cf (wd.heap.size) o (by omega)
  have jf1:=fun o => ff (wd.heap.size) o (by omega)
  have zf2:we.heap.size < wf.heap.size:=by omega
  have yf2:we.heap.size≤wf.heap.size:=by omega
  have kf2:=fun o => cf (we.heap.size) o (by omega)
  have jf2:=fun o => ff (we.heap.size) o (by omega)
  go_wp2_with fail;go_wp2_with fail;refine (hag.out _).mono ?_;rintro e wj ⟨rfl,gj⟩;obtain ⟨cj,fj,sj⟩:=gj.cells;try simp only [Aa] at cj fj sj
  try simp only [zL] at cj fj sj
  try simp only [zD] at cj fj sj
  try simp only [zS] at cj fj sj
  have zj0:w.heap.size + 1 < wj.heap.size:=by omega
  have kj0:=fun o => cj (w.heap.size + 1) o (by omega)
  have jj0:=fun o => fj (w.heap.size + 1) o (by omega)
  go_wp2_with fail;go_ret;exact ⟨rfl,(by repeat (first | exact Gr.refl _ | apply Gr.alloc | apply Gr.drew | apply Gr.drewN | (refine Gr.setCell ?_ (by first | (simp;done) | (simp;omega)) _) | (refine Gr.trans ?_ (by assumption))))⟩
 ·rw [decide_eq_false hc,Bool.false_and];go_enter Tryz.func201,Tryz.ntmps201;go_wp2_with fail;refine (hsl.out _).mono ?_;rintro e wa ⟨rfl,ga⟩;obtain ⟨ca,fa,sa⟩:=ga.cells;try simp only [Aa] at ca fa sa
  try simp only [zL] at ca fa sa
  try simp only [zD] at ca fa sa
  try simp only [zS] at ca fa sa
  have za0:w.heap.size < wa.heap.size:=by omega
  have ya0:w.heap.size≤wa.heap.size:=by omega
  have ka0:=fun o => ca (w.heap.size) o (by omega)
  have ja0:=fun o => fa (w.heap.size) o (by omega)
  have za1:w.heap.size + 1 < wa.heap.size:=by omega
  have ka1:=fun o => ca (w.heap.size + 1) o (by omega)
  have ja1:=fun o => fa (w.heap.size + 1) o (by omega)
  go_wp2_with fail;go_wp2_with fail;refine (hwi.out _ (hE.gr ((((Gr.refl w).alloc _).alloc _).trans ga))).mono ?_;rintro e wb ⟨rfl,gb⟩;obtain ⟨cb,fb,sb⟩:=gb.cells;try simp only [Aa] at cb fb sb
  try simp only [zL] at cb fb sb
  try simp only [zD] at cb fb sb
  try simp only [zS] at cb fb sb
  have zb0:w.heap.size < wb.heap.size:=by omega
  have yb0:w.heap.size≤wb.heap.size:=by omega
  have kb0:=fun o => cb (w.heap.size) o (by omega)
  have jb0:=fun o => fb (w.heap.size) o (by omega)
  have zb1:w.heap.size + 1 < wb.heap.size:=by omega
  have kb1:=fun o => cb (w.heap.size + 1) o (by omega)
  have jb1:=fun o => fb (w.heap.size + 1) o (by omega)
  go_wp2_with fail;go_ret;exact ⟨rfl,(by repeat (first | exact Gr.refl _ | apply Gr.alloc | apply Gr.drew | apply Gr.drewN | (refine Gr.setCell ?_ (by first | (simp;done) | (simp;omega)) _) | (refine Gr.trans ?_ (by assumption))))⟩
theorem FG {w:World} {b o:Nat} {v:Value} (h:w.cell? ⟨b,o,none⟩ = some v):b < w.heap.size:=by
 unfold World.cell? at h;split at h
 ·rename_i hb;exact (Array.getElem?_eq_some_iff.1 hb).1
 ·cases h
theorem MU (lb:Nat) (a:Option Addr) (l:List Ao) (c:Nat) (n:Int) (w:World) (hl:AJ w a l) (h:FF l n = none) (hc:w.cell? ⟨lb,0,none⟩ = some (.slice a l.length c)) :
 Calls Tryz.prog 204 #[.int .i64 n,.pointer (some ⟨lb,0,none⟩)] w fun e w' => e = .returned (.tuple #[.int .i64 (Bc l n),.nilIface])∧Gr w w':=by
 have hd:=Jo a l c n w hl h;have hlb:=FG hc;replace h:=zH h;replace hd:=zH hd;go_enter Tryz.func204,Tryz.ntmps204;go_wp2_with fail;refine (hd.out).mono ?_;rintro e wa ⟨rfl,ga⟩;obtain ⟨ca,fa,sa⟩:=ga.cells;try simp only [Aa] at ca fa sa
 try simp only [zL] at ca fa sa
 try simp only [zD] at ca fa sa
 try simp only [zS] at ca fa sa
 go_wp2_with fail;go_ret2;exact ⟨rfl,ga⟩
def Cr (s:Ao) (ls:List Int) (f:Int→Int):Bool:=ls.all fun l => decide (f l≤Au (Ak s) l)
theorem HM (s:Ao) (aL:Option Addr) (ls:List Int) (cL:Nat) (lb:Nat) (a:Option Addr) (l:List Ao) (c:Nat) (w:World) (h:AE s = true) (hL:Dl w aL ls) (hm:ls.length≤4096) (hls:∀ x ∈ ls,A2 x) (hl:AJ w a l) (hk:∀ x,A2 x→FF l x = none) (hal:AY l = true) (h8:l.length≤8) (hc:w.cell? ⟨lb,0,none⟩ = some (.slice a l.length c)) :
 Calls Tryz.prog 202 #[.agg #[.int .i64 s.k,.int .i64 s.q,.int .i64 s.t],.slice aL ls.length cL,.func (.func 204) #[] #[.pointer (some ⟨lb,0,none⟩)]] w fun e w' => e = .returned (.bool (Cr s ls (Bc l)))∧Gr w w':=by
 have hlb:=FG hc;unfold Cr;go_enter Tryz.func202,Tryz.ntmps202;go_wp2_with fail;go_loopw [14] (fun iv wr => ∃ k:Nat,k≤ls.length∧iv = .int .i64 k∧(ls.take k).all (fun l' => decide (Bc l l'≤Au (Ak s) l')) = true∧Gr (w.alloc (.cells #[.int .i64 s.k,.int .i64 s.q,.int .i64 s.t] 29)) wr) (fun iv _ => ls.length - (intOf iv).toNat);case atStart => exact ⟨0,Nat.zero_le _,rfl,rfl,Gr.refl _⟩
 case round =>
  obtain ⟨k,hkl,rfl,hall,hg⟩:=hrel;have gall:Gr w wr:=((Gr.refl w).alloc _).trans hg;obtain ⟨cg,fg,sg⟩:=hg.cells;simp only [zL] at cg fg sg;have k1:=fun o => cg w.heap.size o (by omega)
  clear cg fg;replace hall:=zH hall;by_cases hlt:k < ls.length
  ·obtain ⟨x,hx⟩:=Ac ls k hlt;obtain ⟨b,off,rfl,hb,c0⟩:=(hL.gr gall).get hx;have hxo:=hls x (AL hx);have hts:=Ae hx;have hbd:=D9 hal h8 hxo;have hgv:=Bx (Be h) x;have hgl:=Dy (Be h) hxo.1;have hxo2:=hxo.2;have hk1:=fun w' (g:Gr w w') => MU lb a l c x w' (hl.gr g) (hk x hxo) (by rw [g.cells.1 lb 0 hlb];exact hc)
   have hbo:=fun w' => EW s x w' h hxo
   obtain ⟨v,hv⟩:=zE (decide (Bc l x≤Au (Ak s) x));have hnext:(ls.take (k + 1)).all (fun l' => decide (Bc l l'≤Au (Ak s) l')) = v:=by
    rw [hts,List.all_append,hall.out,hv];simp
   have hno:v = false→ls.all (fun l' => decide (Bc l l'≤Au (Ak s) l')) = false:=fun hvf => by
    cases hh:ls.all (fun l' => decide (Bc l l'≤Au (Ak s) l')) with
    | false => rfl
    | true =>
     have:=List.all_eq_true.1 hh x (AL hx);rw [← hv,hvf] at this;cases this
   obtain ⟨hbd1,hbd2⟩:=hbd;refine B0 ?_ hnext hno hk1 hbo;clear hnext hno hk1 hbo;intro hnext hno hk1 hbo;clear hts;replace hx:=zH hx;replace hxo:=zH hxo;cases v with
   | true =>
    have hle:Bc l x≤Au (Ak s) x:=of_decide_eq_true hv.symm;clear hv;go_wp2_with fail;refine (hk1.out wr gall).mono ?_;rintro e w2 ⟨rfl,g2⟩;obtain ⟨c2,f2,s2⟩:=g2.cells;have k2:=fun o => c2 w.heap.size o (by omega)
    clear c2 f2;go_wp2_with fail;refine (hbo.out _).mono ?_;rintro e w3 ⟨rfl,g3⟩;go_wp2_with fail;go_roundw;case rel => exact ⟨k + 1,by omega,by go_num,hnext.out,(hg.trans g2).trans g3⟩
    case measure => simp [intOf];omega
   | false =>
    have hle:Au (Ak s) x < Bc l x:=by have:=of_decide_eq_false hv.symm;omega
    clear hv;go_wp2_with fail;refine (hk1.out wr gall).mono ?_;rintro e w2 ⟨rfl,g2⟩;obtain ⟨c2,f2,s2⟩:=g2.cells;have k2:=fun o => c2 w.heap.size o (by omega)
    clear c2 f2;go_wp2_with fail;refine (hbo.out _).mono ?_;rintro e w3 ⟨rfl,g3⟩;go_wp2_with fail;go_ret;exact ⟨C5 (hno.out trivial).symm,(gall.trans g2).trans g3⟩
  ·have hall2:ls.take k = ls:=List.take_of_length_le (by omega);rw [hall2] at hall;go_wp2_with fail;go_ret;exact ⟨C5 hall.out.symm,gall⟩
def Bl (l:List Ao):Int:=A0 (fun s => s.q) l
def DM (s:Ao) (l:List Ao):Bool:=BU s (Ah l) (2 * Bl l) && Cr s (AN l 4096) (Bc l)
theorem DX {l:List Ao} (h:AY l = true) (h8:l.length≤8) (k:Nat):0≤Bl (l.take k)∧Bl (l.take k)≤2048:=by
 have:=C4 (fun s:Ao => s.q) (l.take k) 256 (fun x hx => by
  have:=(Ao.leg_iff _).1 (List.all_eq_true.1 h x (List.mem_of_mem_take hx));omega)
 have h2:(l.take k).length≤8:=by rw [List.length_take];omega
 unfold Bl;omega
theorem EK (l:List Ao) (n:Nat):∀ x ∈ AN l n,1≤x∧x≤n:=by
 induction n with
 | zero => intro x hx;cases hx
 | succ n ih =>
  intro x hx;rw [AN,List.mem_append] at hx;rcases hx with hx | hx
  ·have:=ih x hx;omega
  ·split at hx
   ·rw [List.mem_singleton.1 hx];omega
   ·cases hx
theorem N9 {G:List Nat} {E:Nat→Addr} (s:Ao) (a:Option Addr) (l:List Ao) (c:Nat) (w:World) (hE:CK G E w) (i0:9 ∈ G) (h:AE s = true) (hl:AJ w a l) (hal:AY l = true) (h8:l.length≤8) (hck:∀ x,A2 x→FF l x = none) (hse:Bm l = none) (hsh:Nz (Ah l)) (hb:DM s l = true) :
 Calls Tryz.prog 163 #[.agg #[.int .i64 s.k,.int .i64 s.q,.int .i64 s.t],.slice a l.length c] w fun e w' => e = .returned .nilIface∧Gr w w':=by
 have hsi:=fun w => BM s w h
 have hsv:=fun w' (g:Gr w w') => CV a l c w' (hl.gr g) hal h8
 unfold DM at hb;rw [Bool.and_eq_true] at hb;obtain ⟨hb1,hb2⟩:=hb;have hq:=DX hal h8 l.length;rw [List.take_length] at hq;obtain ⟨hq1,hq2⟩:=hq;have hln:=fun w' (g:Gr w w') => DL s (Ah l) (2 * Bl l) w' (hE.gr g) i0 h hsh (by omega) (by omega)
 rw [hb1] at hln;have hst:=fun w' (g:Gr w w') => Ik a l c 4096 4096 w' (hl.gr g) hse (hck 0 ⟨by omega,by omega⟩) hal h8 (by decide) (by decide) (by decide)
 have hbl:=fun aL cL w' lb (g:Gr w w') hL hc => HM s aL (AN l 4096) cL lb a l c w' h hL (DZ l 4096) (fun x hx => by have:=EK l 4096 x hx;exact ⟨by omega,by omega⟩) (hl.gr g) hck hal h8 hc
 rw [hb2] at hbl;have hQ:=DX hal h8;refine Br ?_ hsi hsv hln hst hbl hQ hal hck;clear hsi hsv hln hst hbl hQ hal hck;intro hsi hsv hln hst hbl hQ hal hck;refine DT ?_ hse hsh hb1 hb2 h;clear hse hsh hb1 hb2 h;intro hse hsh hb1 hb2 h;go_enter Tryz.func163,Tryz.ntmps163;go_wp2_with fail;refine (hsi.out _).mono ?_;rintro e w1 ⟨rfl,g1⟩;obtain ⟨c1,f1,s1⟩:=g1.cells;try simp only [Aa] at c1 f1 s1
 try simp only [zL] at c1 f1 s1
 try simp only [zD] at c1 f1 s1
 try simp only [zS] at c1 f1 s1
 have z10:w.heap.size < w1.heap.size:=by omega
 have y10:w.heap.size≤w1.heap.size:=by omega
 have k10:=fun o => c1 (w.heap.size) o (by omega)
 have j10:=fun o => f1 (w.heap.size) o (by omega)
 have z11:w.heap.size + 1 < w1.heap.size:=by omega
 have k11:=fun o => c1 (w.heap.size + 1) o (by omega)
 have j11:=fun o => f1 (w.heap.size + 1) o (by omega)
 go_wp2_with fail;have gA:Gr w w1:=(((Gr.refl w).alloc _).alloc _).trans g1;go_wp2_with fail;refine (hsv.out _ gA).mono ?_;rintro e w2 ⟨rfl,g2⟩;obtain ⟨c2,f2,s2⟩:=g2.cells;try simp only [Aa] at c2 f2 s2
 try simp only [zL] at c2 f2 s2
 try simp only [zD] at c2 f2 s2
 try simp only [zS] at c2 f2 s2
 have z20:w.heap.size < w2.heap.size:=by omega
 have y20:w.heap.size≤w2.heap.size:=by omega
 have k20:=fun o => c2 (w.heap.size) o (by omega)
 have j20:=fun o => f2 (w.heap.size) o (by omega)
 have z21:w.heap.size + 1 < w2.heap.size:=by omega
 have k21:=fun o => c2 (w.heap.size + 1) o (by omega)
 have j21:=fun o => f2 (w.heap.size + 1) o (by omega)
 go_wp2_with fail;have gB:=gA.trans g2;go_loopw [31,9] (fun iv nv wr => ∃ k:Nat,k≤l.length∧iv = .int .i64 k∧nv = .int .i64 (Bl (l.take k))∧Gr (w2.alloc (.cells #[.int .u64 (AV (Ah l).1),.int .u64 (AR (Ah l).1),.int .u64 (AV (Ah l).2),.int .u64 (AR (Ah l).2)] 195)) wr) (fun iv _ _ => l.length - (intOf iv).toNat);case atStart => exact ⟨0,Nat.zero_le _,rfl,rfl,Gr.refl _⟩
 case round =>
  obtain ⟨k,hk,rfl,rfl,hg⟩:=hrel;obtain ⟨cg,fg,sg⟩:=hg.cells;simp only [zL] at cg fg sg;have k1:=fun o => cg w.heap.size o (by omega)
  have k2:=fun o => cg (w.heap.size + 1) o (by omega)
  have k3:=fun o => cg w2.heap.size o (by omega)
  clear cg fg;have gall:Gr w wr:=(gB.alloc _).trans hg;by_cases hlt:k < l.length
  ·obtain ⟨x,hx⟩:=Ac l k hlt;obtain ⟨b,off,rfl,hb,d0,d1,d2⟩:=(hl.gr gall) k x hx;have hq1:=hQ.out k;have hq2:=hQ.out (k + 1);have hnext:Bl (l.take (k + 1)) = Bl (l.take k) + x.q:=by unfold Bl;rw [Ae hx,A6]
   rw [hnext] at hq2;obtain ⟨q1,q2⟩:=hq1;obtain ⟨q3,q4⟩:=hq2;replace hnext:=zH hnext;replace hx:=zH hx;go_wp2_with fail;go_roundw;case rel => exact ⟨k + 1,by omega,by go_num,by rw [hnext.out],hg.trans ((Gr.refl _).alloc _)⟩
   case measure => simp [intOf];omega
  ·have hall:l.take k = l:=List.take_of_length_le (by omega);rw [hall];have hs1:IntKind.i64.wrap (2 * Bl l) = 2 * Bl l:=by rw [IntKind.wrap_i64];omega
   go_wp2_with fail;have c0:wr.cell? ⟨w.heap.size,0,none⟩ = some (.int .i64 s.k):=by simp (maxDischargeDepth:=8) [go_sem, *]
   have c1:wr.cell? ⟨w.heap.size,1,none⟩ = some (.int .i64 s.q):=by simp (maxDischargeDepth:=8) [go_sem, *]
   have c2:wr.cell? ⟨w.heap.size,2,none⟩ = some (.int .i64 s.t):=by simp (maxDischargeDepth:=8) [go_sem, *]
   have c3:wr.cell? ⟨w.heap.size + 1,0,none⟩ = some (.slice a l.length c):=by simp (maxDischargeDepth:=8) [go_sem, *]
   have z1:w.heap.size < wr.heap.size:=by omega
   have z2:w.heap.size + 1 < wr.heap.size:=by omega
   go_region_held3 (fun w' => w'.cell? ⟨w.heap.size,0,none⟩ = some (.int .i64 s.k)∧w'.cell? ⟨w.heap.size,1,none⟩ = some (.int .i64 s.q)∧w'.cell? ⟨w.heap.size,2,none⟩ = some (.int .i64 s.t)∧w'.cell? ⟨w.heap.size + 1,0,none⟩ = some (.slice a l.length c)∧w'.cell? ⟨w2.heap.size,0,none⟩ = some (.int .u64 (AV (Ah l).1))∧w'.cell? ⟨w2.heap.size,1,none⟩ = some (.int .u64 (AR (Ah l).1))∧w'.cell? ⟨w2.heap.size,2,none⟩ = some (.int .u64 (AV (Ah l).2))∧w'.cell? ⟨w2.heap.size,3,none⟩ = some (.int .u64 (AR (Ah l).2))) (simp (maxDischargeDepth:=8) [go_sem, *])
    (first
     | (go_at_call 201;(with_reducible refine (hln.out _ (gall.drew)).mono ?_);rintro e w4 ⟨rfl,g4⟩;obtain ⟨c4,f4,s4⟩:=g4.cells;simp only [World.size_drew] at c4 f4 s4;have k4:=fun o => c4 w.heap.size o (by omega);have k5:=fun o => c4 (w.heap.size + 1) o (by omega);have k6:=fun o => c4 w2.heap.size o (by omega);clear c4 f4;have gall4:=(gall.drew).trans g4;replace gall4:=zH gall4)
     | (go_at_call 203;(with_reducible refine (hst.out _ gall4.out).mono ?_);rintro e w5 ⟨aS,cS,rfl,hS,g5⟩;obtain ⟨c5,f5,s5⟩:=g5.cells;have k7:=fun o => c5 w.heap.size o (by omega);have k8:=fun o => c5 (w.heap.size + 1) o (by omega);have k9:=fun o => c5 w2.heap.size o (by omega);clear c5 f5;have gall5:=gall4.out.trans g5;replace gall5:=zH gall5;replace hS:=zH hS)
     | (go_at_call 202;(with_reducible refine (hbl.out aS cS _ (w.heap.size + 1) gall5.out hS.out (by simp (maxDischargeDepth:=8) [go_sem, *])).mono ?_);rintro e w6 ⟨rfl,g6⟩;obtain ⟨c6,f6,s6⟩:=g6.cells;have k10:=fun o => c6 w.heap.size o (by omega);have k11:=fun o => c6 (w.heap.size + 1) o (by omega);have k12:=fun o => c6 w2.heap.size o (by omega);clear c6 f6;have gall6:=gall5.out.trans g6;replace gall6:=zH gall6)
     | fail)
   all_goals go_wp2_with fail
   all_goals go_ret
   all_goals exact ⟨rfl,gall6.out⟩
theorem MS {G:List Nat} {E:Nat→Addr} (s:Ao) (a:Option Addr) (l:List Ao) (c:Nat) (w:World) (hE:CK G E w) (i0:9 ∈ G) (h:AE s = true) (hl:AJ w a l) (hal:AY l = true) (h8:l.length≤8) (hck:∀ x,A2 x→FF l x = none) (hse:Bm l = none) (hsh:Nz (Ah l)) (i1:11 ∈ G) (hb1:BU s (Ah l) (2 * Bl l) = true) (hb2:Cr s (AN l 4096) (Bc l) = false) :
 Calls Tryz.prog 163 #[.agg #[.int .i64 s.k,.int .i64 s.q,.int .i64 s.t],.slice a l.length c] w fun e w' => e = .returned (Value.iface 384 (.pointer (some (E 11))))∧Gr w w':=by
 have hsi:=fun w => BM s w h
 have hsv:=fun w' (g:Gr w w') => CV a l c w' (hl.gr g) hal h8
 have hq:=DX hal h8 l.length;rw [List.take_length] at hq;obtain ⟨hq1,hq2⟩:=hq;have hln:=fun w' (g:Gr w w') => DL s (Ah l) (2 * Bl l) w' (hE.gr g) i0 h hsh (by omega) (by omega)
 rw [hb1] at hln;have hst:=fun w' (g:Gr w w') => Ik a l c 4096 4096 w' (hl.gr g) hse (hck 0 ⟨by omega,by omega⟩) hal h8 (by decide) (by decide) (by decide)
 have hbl:=fun aL cL w' lb (g:Gr w w') hL hc => HM s aL (AN l 4096) cL lb a l c w' h hL (DZ l 4096) (fun x hx => by have:=EK l 4096 x hx;exact ⟨by omega,by omega⟩) (hl.gr g) hck hal h8 hc
 rw [hb2] at hbl;have hQ:=DX hal h8;refine Br ?_ hsi hsv hln hst hbl hQ hal hck;clear hsi hsv hln hst hbl hQ hal hck;intro hsi hsv hln hst hbl hQ hal hck;refine DT ?_ hse hsh hb1 hb2 h;clear hse hsh hb1 hb2 h;intro hse hsh hb1 hb2 h;go_enter Tryz.func163,Tryz.ntmps163;go_wp2_with fail;refine (hsi.out _).mono ?_;rintro e w1 ⟨rfl,g1⟩;obtain ⟨c1,f1,s1⟩:=g1.cells;try simp only [Aa] at c1 f1 s1
 try simp only [zL] at c1 f1 s1
 try simp only [zD] at c1 f1 s1
 try simp only [zS] at c1 f1 s1
 have z10:w.heap.size < w1.heap.size:=by omega
 have y10:w.heap.size≤w1.heap.size:=by omega
 have k10:=fun o => c1 (w.heap.size) o (by omega)
 have j10:=fun o => f1 (w.heap.size) o (by omega)
 have z11:w.heap.size + 1 < w1.heap.size:=by omega
 have k11:=fun o => c1 (w.heap.size + 1) o (by omega)
 have j11:=fun o => f1 (w.heap.size + 1) o (by omega)
 go_wp2_with fail;have gA:Gr w w1:=(((Gr.refl w).alloc _).alloc _).trans g1;go_wp2_with fail;refine (hsv.out _ gA).mono ?_;rintro e w2 ⟨rfl,g2⟩;obtain ⟨c2,f2,s2⟩:=g2.cells;try simp only [Aa] at c2 f2 s2
 try simp only [zL] at c2 f2 s2
 try simp only [zD] at c2 f2 s2
 try simp only [zS] at c2 f2 s2
 have z20:w.heap.size < w2.heap.size:=by omega
 have y20:w.heap.size≤w2.heap.size:=by omega
 have k20:=fun o => c2 (w.heap.size) o (by omega)
 have j20:=fun o => f2 (w.heap.size) o (by omega)
 have z21:w.heap.size + 1 < w2.heap.size:=by omega
 have k21:=fun o => c2 (w.heap.size + 1) o (by omega)
 have j21:=fun o => f2 (w.heap.size + 1) o (by omega)
 go_wp2_with fail;have gB:=gA.trans g2;go_loopw [31,9] (fun iv nv wr => ∃ k:Nat,k≤l.length∧iv = .int .i64 k∧nv = .int .i64 (Bl (l.take k))∧Gr (w2.alloc (.cells #[.int .u64 (AV (Ah l).1),.int .u64 (AR (Ah l).1),.int .u64 (AV (Ah l).2),.int .u64 (AR (Ah l).2)] 195)) wr) (fun iv _ _ => l.length - (intOf iv).toNat);case atStart => exact ⟨0,Nat.zero_le _,rfl,rfl,Gr.refl _⟩
 case round =>
  obtain ⟨k,hk,rfl,rfl,hg⟩:=hrel;obtain ⟨cg,fg,sg⟩:=hg.cells;simp only [zL] at cg fg sg;have k1:=fun o => cg w.heap.size o (by omega)
  have k2:=fun o => cg (w.heap.size + 1) o (by omega)
  have k3:=fun o => cg w2.heap.size o (by omega)
  clear cg fg;have gall:Gr w wr:=(gB.alloc _).trans hg;by_cases hlt:k < l.length
  ·obtain ⟨x,hx⟩:=Ac l k hlt;obtain ⟨b,off,rfl,hb,d0,d1,d2⟩:=(hl.gr gall) k x hx;have hq1:=hQ.out k;have hq2:=hQ.out (k + 1);have hnext:Bl (l.take (k + 1)) = Bl (l.take k) + x.q:=by unfold Bl;rw [Ae hx,A6]
   rw [hnext] at hq2;obtain ⟨q1,q2⟩:=hq1;obtain ⟨q3,q4⟩:=hq2;replace hnext:=zH hnext;replace hx:=zH hx;go_wp2_with fail;go_roundw;case rel => exact ⟨k + 1,by omega,by go_num,by rw [hnext.out],hg.trans ((Gr.refl _).alloc _)⟩
   case measure => simp [intOf];omega
  ·have hall:l.take k = l:=List.take_of_length_le (by omega);rw [hall];have hs1:IntKind.i64.wrap (2 * Bl l) = 2 * Bl l:=by rw [IntKind.wrap_i64];omega
   go_wp2_with fail;have c0:wr.cell? ⟨w.heap.size,0,none⟩ = some (.int .i64 s.k):=by simp (maxDischargeDepth:=8) [go_sem, *]
   have c1:wr.cell? ⟨w.heap.size,1,none⟩ = some (.int .i64 s.q):=by simp (maxDischargeDepth:=8) [go_sem, *]
   have c2:wr.cell? ⟨w.heap.size,2,none⟩ = some (.int .i64 s.t):=by simp (maxDischargeDepth:=8) [go_sem, *]
   have c3:wr.cell? ⟨w.heap.size + 1,0,none⟩ = some (.slice a l.length c):=by simp (maxDischargeDepth:=8) [go_sem, *]
   have z1:w.heap.size < wr.heap.size:=by omega
   have z2:w.heap.size + 1 < wr.heap.size:=by omega
   go_region_held3 (fun w' => w'.cell? ⟨w.heap.size,0,none⟩ = some (.int .i64 s.k)∧w'.cell? ⟨w.heap.size,1,none⟩ = some (.int .i64 s.q)∧w'.cell? ⟨w.heap.size,2,none⟩ = some (.int .i64 s.t)∧w'.cell? ⟨w.heap.size + 1,0,none⟩ = some (.slice a l.length c)∧w'.cell? ⟨w2.heap.size,0,none⟩ = some (.int .u64 (AV (Ah l).1))∧w'.cell? ⟨w2.heap.size,1,none⟩ = some (.int .u64 (AR (Ah l).1))∧w'.cell? ⟨w2.heap.size,2,none⟩ = some (.int .u64 (AV (Ah l).2))∧w'.cell? ⟨w2.heap.size,3,none⟩ = some (.int .u64 (AR (Ah l).2))) (simp (maxDischargeDepth:=8) [go_sem, *])
    (first
     | (go_at_call 201;(with_reducible refine (hln.out _ (gall.drew)).mono ?_);rintro e w4 ⟨rfl,g4⟩;obtain ⟨c4,f4,s4⟩:=g4.cells;simp only [World.size_drew] at c4 f4 s4;have k4:=fun o => c4 w.heap.size o (by omega);have k5:=fun o => c4 (w.heap.size + 1) o (by omega);have k6:=fun o => c4 w2.heap.size o (by omega);clear c4 f4;have gall4:=(gall.drew).trans g4;replace gall4:=zH gall4)
     | (go_at_call 203;(with_reducible refine (hst.out _ gall4.out).mono ?_);rintro e w5 ⟨aS,cS,rfl,hS,g5⟩;obtain ⟨c5,f5,s5⟩:=g5.cells;have k7:=fun o => c5 w.heap.size o (by omega);have k8:=fun o => c5 (w.heap.size + 1) o (by omega);have k9:=fun o => c5 w2.heap.size o (by omega);clear c5 f5;have gall5:=gall4.out.trans g5;replace gall5:=zH gall5;replace hS:=zH hS)
     | (go_at_call 202;(with_reducible refine (hbl.out aS cS _ (w.heap.size + 1) gall5.out hS.out (by simp (maxDischargeDepth:=8) [go_sem, *])).mono ?_);rintro e w6 ⟨rfl,g6⟩;obtain ⟨c6,f6,s6⟩:=g6.cells;have k10:=fun o => c6 w.heap.size o (by omega);have k11:=fun o => c6 (w.heap.size + 1) o (by omega);have k12:=fun o => c6 w2.heap.size o (by omega);clear c6 f6;have gall6:=gall5.out.trans g6;replace gall6:=zH gall6)
     | fail)
   all_goals (have he:=(hE.gr gall6.out).c0 i1)
   all_goals go_wp2_with fail
   all_goals go_ret
   all_goals exact ⟨rfl,gall6.out⟩
theorem MT {G:List Nat} {E:Nat→Addr} (s:Ao) (a:Option Addr) (l:List Ao) (c:Nat) (w:World) (hE:CK G E w) (i0:9 ∈ G) (h:AE s = true) (hl:AJ w a l) (hal:AY l = true) (h8:l.length≤8) (hsh:Nz (Ah l)) (i1:11 ∈ G) (hb1:BU s (Ah l) (2 * Bl l) = false) :
 Calls Tryz.prog 163 #[.agg #[.int .i64 s.k,.int .i64 s.q,.int .i64 s.t],.slice a l.length c] w fun e w' => e = .returned (Value.iface 384 (.pointer (some (E 11))))∧Gr w w':=by
 have hsi:=fun w => BM s w h
 have hsv:=fun w' (g:Gr w w') => CV a l c w' (hl.gr g) hal h8
 have hq:=DX hal h8 l.length;rw [List.take_length] at hq;obtain ⟨hq1,hq2⟩:=hq;have hln:=fun w' (g:Gr w w') => DL s (Ah l) (2 * Bl l) w' (hE.gr g) i0 h hsh (by omega) (by omega)
 rw [hb1] at hln;have hQ:=DX hal h8;refine Br ?_ hsi hsv hln hQ hal hsh hb1 h;clear hsi hsv hln hQ hal hsh hb1 h;intro hsi hsv hln hQ hal hsh hb1 h;go_enter Tryz.func163,Tryz.ntmps163;go_wp2_with fail;refine (hsi.out _).mono ?_;rintro e w1 ⟨rfl,g1⟩;obtain ⟨c1,f1,s1⟩:=g1.cells;try simp only [Aa] at c1 f1 s1
 try simp only [zL] at c1 f1 s1
 try simp only [zD] at c1 f1 s1
 try simp only [zS] at c1 f1 s1
 have z10:w.heap.size < w1.heap.size:=by omega
 have y10:w.heap.size≤w1.heap.size:=by omega
 have k10:=fun o => c1 (w.heap.size) o (by omega)
 have j10:=fun o => f1 (w.heap.size) o (by omega)
 have z11:w.heap.size + 1 < w1.heap.size:=by omega
 have k11:=fun o => c1 (w.heap.size + 1) o (by omega)
 have j11:=fun o => f1 (w.heap.size + 1) o (by omega)
 go_wp2_with fail;have gA:Gr w w1:=(((Gr.refl w).alloc _).alloc _).trans g1;go_wp2_with fail;refine (hsv.out _ gA).mono ?_;rintro e w2 ⟨rfl,g2⟩;obtain ⟨c2,f2,s2⟩:=g2.cells;try simp only [Aa] at c2 f2 s2
 try simp only [zL] at c2 f2 s2
 try simp only [zD] at c2 f2 s2
 try simp only [zS] at c2 f2 s2
 have z20:w.heap.size < w2.heap.size:=by omega
 have y20:w.heap.size≤w2.heap.size:=by omega
 have k20:=fun o => c2 (w.heap.size) o (by omega)
 have j20:=fun o => f2 (w.heap.size) o (by omega)
 have z21:w.heap.size + 1 < w2.heap.size:=by omega
 have k21:=fun o => c2 (w.heap.size + 1) o (by omega)
 have j21:=fun o => f2 (w.heap.size + 1) o (by omega)
 go_wp2_with fail;have gB:=gA.trans g2;go_loopw [31,9] (fun iv nv wr => ∃ k:Nat,k≤l.length∧iv = .int .i64 k∧nv = .int .i64 (Bl (l.take k))∧Gr (w2.alloc (.cells #[.int .u64 (AV (Ah l).1),.int .u64 (AR (Ah l).1),.int .u64 (AV (Ah l).2),.int .u64 (AR (Ah l).2)] 195)) wr) (fun iv _ _ => l.length - (intOf iv).toNat);case atStart => exact ⟨0,Nat.zero_le _,rfl,rfl,Gr.refl _⟩
 case round =>
  obtain ⟨k,hk,rfl,rfl,hg⟩:=hrel;obtain ⟨cg,fg,sg⟩:=hg.cells;simp only [zL] at cg fg sg;have k1:=fun o => cg w.heap.size o (by omega)
  have k2:=fun o => cg (w.heap.size + 1) o (by omega)
  have k3:=fun o => cg w2.heap.size o (by omega)
  clear cg fg;have gall:Gr w wr:=(gB.alloc _).trans hg;by_cases hlt:k < l.length
  ·obtain ⟨x,hx⟩:=Ac l k hlt;obtain ⟨b,off,rfl,hb,d0,d1,d2⟩:=(hl.gr gall) k x hx;have hq1:=hQ.out k;have hq2:=hQ.out (k + 1);have hnext:Bl (l.take (k + 1)) = Bl (l.take k) + x.q:=by unfold Bl;rw [Ae hx,A6]
   rw [hnext] at hq2;obtain ⟨q1,q2⟩:=hq1;obtain ⟨q3,q4⟩:=hq2;replace hnext:=zH hnext;replace hx:=zH hx;go_wp2_with fail;go_roundw;case rel => exact ⟨k + 1,by omega,by go_num,by rw [hnext.out],hg.trans ((Gr.refl _).alloc _)⟩
   case measure => simp [intOf];omega
  ·have hall:l.take k = l:=List.take_of_length_le (by omega);rw [hall];have hs1:IntKind.i64.wrap (2 * Bl l) = 2 * Bl l:=by rw [IntKind.wrap_i64];omega
   go_wp2_with fail;have c0:wr.cell? ⟨w.heap.size,0,none⟩ = some (.int .i64 s.k):=by simp (maxDischargeDepth:=8) [go_sem, *]
   have c1:wr.cell? ⟨w.heap.size,1,none⟩ = some (.int .i64 s.q):=by simp (maxDischargeDepth:=8) [go_sem, *]
   have c2:wr.cell? ⟨w.heap.size,2,none⟩ = some (.int .i64 s.t):=by simp (maxDischargeDepth:=8) [go_sem, *]
   have c3:wr.cell? ⟨w.heap.size + 1,0,none⟩ = some (.slice a l.length c):=by simp (maxDischargeDepth:=8) [go_sem, *]
   have z1:w.heap.size < wr.heap.size:=by omega
   have z2:w.heap.size + 1 < wr.heap.size:=by omega
   have c4:wr.cell? ⟨w2.heap.size,0,none⟩ = some (.int .u64 (AV (Ah l).1)):=by simp (maxDischargeDepth:=8) [go_sem, *]
   have c5:wr.cell? ⟨w2.heap.size,1,none⟩ = some (.int .u64 (AR (Ah l).1)):=by simp (maxDischargeDepth:=8) [go_sem, *]
   have c6:wr.cell? ⟨w2.heap.size,2,none⟩ = some (.int .u64 (AV (Ah l).2)):=by simp (maxDischargeDepth:=8) [go_sem, *]
   have c7:wr.cell? ⟨w2.heap.size,3,none⟩ = some (.int .u64 (AR (Ah l).2)):=by simp (maxDischargeDepth:=8) [go_sem, *]
   have q0:=AB.cell c0;have q1:=AB.cell c1;have q2:=AB.cell c2;have q4:=AB.cell c4;have q5:=AB.cell c5;have q6:=AB.cell c6;have q7:=AB.cell c7;refine Ap (by kernel_rfl) (by kernel_rfl) ?_;repeat (any_goals (first | go_big_quiet_step (first | (exact Calls.grows (hln.out _ (gall.trans (by exact AB.gr _))))) | quiet_step (first | (exact Calls.grows (hln.out _ (gall.trans (by exact AB.gr _)))))))
   refine wpQuiet_nil ?_;intro wp hwq;have gp:=AB.of hwq;clear hwq;obtain ⟨cp,fp,sp⟩:=gp.cells;try simp only [Aa] at cp fp sp
   try simp only [zL] at cp fp sp
   try simp only [zD] at cp fp sp
   try simp only [zS] at cp fp sp
   have he:=(hE.gr (gall.trans gp)).c0 i1;go_wp2_with fail;go_ret;exact ⟨rfl,gall.trans gp⟩
def Am (s:Ao) (l:List Ao):Option Nat:=if AE s = false then some 9 else match Bm l with
 | some g => some g
 | none => if DM s l = true then none else some 11
theorem Oc {G:List Nat} {E:Nat→Addr} (s:Ao) (a:Option Addr) (l:List Ao) (c:Nat) (w:World) (hE:CK G E w) (i0:9 ∈ G) (h:AE s = false) :
 Calls Tryz.prog 163 #[.agg #[.int .i64 s.k,.int .i64 s.q,.int .i64 s.t],.slice a l.length c] w fun e w' => e = .returned (Value.iface 384 (.pointer (some (E 9))))∧Gr w w':=by
 have hsi:=fun w hE => G3 (G:=G) (E:=E) s w hE i0 h
 replace hsi:=zH hsi;replace h:=zH h;go_enter Tryz.func163,Tryz.ntmps163;go_wp2_with fail;refine (hsi.out _ (hE.gr (((Gr.refl w).alloc _).alloc _))).mono ?_;rintro e w1 ⟨rfl,g1⟩;obtain ⟨c1,f1,s1⟩:=g1.cells;try simp only [Aa] at c1 f1 s1
 try simp only [zL] at c1 f1 s1
 try simp only [zD] at c1 f1 s1
 try simp only [zS] at c1 f1 s1
 have z10:w.heap.size < w1.heap.size:=by omega
 have y10:w.heap.size≤w1.heap.size:=by omega
 have k10:=fun o => c1 (w.heap.size) o (by omega)
 have j10:=fun o => f1 (w.heap.size) o (by omega)
 have z11:w.heap.size + 1 < w1.heap.size:=by omega
 have k11:=fun o => c1 (w.heap.size + 1) o (by omega)
 have j11:=fun o => f1 (w.heap.size + 1) o (by omega)
 go_wp2_with fail;go_ret;exact ⟨rfl,(((Gr.refl w).alloc _).alloc _).trans g1⟩
theorem Ob {E:Nat→Addr} (g:Nat) (s:Ao) (a:Option Addr) (l:List Ao) (c:Nat) (w:World) (h:AE s = true)
 (hsv:∀ w',Gr w w'→Calls Tryz.prog 200 #[.slice a l.length c] w' fun e w'' => e = .returned (.tuple #[C2,Hy E g])∧Gr w' w'') :
 Calls Tryz.prog 163 #[.agg #[.int .i64 s.k,.int .i64 s.q,.int .i64 s.t],.slice a l.length c] w fun e w' => e = .returned (Hy E g)∧Gr w w':=by
 have hsi:=fun w => BM s w h
 refine AZ ?_ hsi hsv h;clear hsi hsv h;intro hsi hsv h;go_enter Tryz.func163,Tryz.ntmps163;go_wp2_with fail;refine (hsi.out _).mono ?_;rintro e w1 ⟨rfl,g1⟩;obtain ⟨c1,f1,s1⟩:=g1.cells;try simp only [Aa] at c1 f1 s1
 try simp only [zL] at c1 f1 s1
 try simp only [zD] at c1 f1 s1
 try simp only [zS] at c1 f1 s1
 have z10:w.heap.size < w1.heap.size:=by omega
 have y10:w.heap.size≤w1.heap.size:=by omega
 have k10:=fun o => c1 (w.heap.size) o (by omega)
 have j10:=fun o => f1 (w.heap.size) o (by omega)
 have z11:w.heap.size + 1 < w1.heap.size:=by omega
 have k11:=fun o => c1 (w.heap.size + 1) o (by omega)
 have j11:=fun o => f1 (w.heap.size + 1) o (by omega)
 go_wp2_with fail;have gA:Gr w w1:=(((Gr.refl w).alloc _).alloc _).trans g1;go_wp2_with fail;refine (hsv.out _ gA).mono ?_;rintro e w2 ⟨rfl,g2⟩;obtain ⟨c2,f2,s2⟩:=g2.cells;try simp only [Aa] at c2 f2 s2
 try simp only [zL] at c2 f2 s2
 try simp only [zD] at c2 f2 s2
 try simp only [zS] at c2 f2 s2
 have z20:w.heap.size < w2.heap.size:=by omega
 have y20:w.heap.size≤w2.heap.size:=by omega
 have k20:=fun o => c2 (w.heap.size) o (by omega)
 have j20:=fun o => f2 (w.heap.size) o (by omega)
 have z21:w.heap.size + 1 < w2.heap.size:=by omega
 have k21:=fun o => c2 (w.heap.size + 1) o (by omega)
 have j21:=fun o => f2 (w.heap.size + 1) o (by omega)
 go_wp2_with fail;go_ret;exact ⟨rfl,(gA.trans g2).alloc _⟩
theorem G1 {l:List Ao} {n:Int} (h:Bm l = none) (hn:A2 n):FF l n = none:=by
 unfold Bm at h;unfold FF;obtain ⟨h1,h2⟩:=hn;split at h
 ·cases h
 ·rename_i h3;rw [if_neg h3];split at h
  ·cases h
  ·rename_i h4;rw [if_neg h4,if_neg (by omega)]
theorem Ce {l:List Ao} (h:Bm l = none):AY l = true∧l.length≤8:=by
 unfold Bm at h;split at h
 ·cases h
 ·rename_i h3;split at h
  ·cases h
  ·rename_i h4;exact ⟨by simpa using h3,by omega⟩
theorem Fy {G:List Nat} {E:Nat→Addr} (s:Ao) (a:Option Addr) (l:List Ao) (c:Nat) (w:World) (hE:CK G E w) (i0:9 ∈ G) (i1:11 ∈ G) (i3:6 ∈ G) (hl:AJ w a l) (hm:l.length≤maxLen) :
 Calls Tryz.prog 163 #[.agg #[.int .i64 s.k,.int .i64 s.q,.int .i64 s.t],.slice a l.length c] w fun e w' => e = .returned (Ok E (Am s l))∧Gr w w':=by
 cases hp:AE s with
 | false =>
  have hk:Am s l = some 9:=by unfold Am;rw [if_pos hp]
  rw [hk];exact Oc s a l c w hE i0 hp
 | true =>
  cases hs:Bm l with
  | some g =>
   have hk:Am s l = some g:=by unfold Am;rw [if_neg (by rw [hp];decide),hs]
   rw [hk];refine Ob g s a l c w hp (fun w' gw => ?_);unfold Bm at hs;split at hs
   ·rename_i h1;obtain rfl:=Option.some.inj hs;exact G5 a l c w' (hE.gr gw) i0 (hl.gr gw) hm h1
   ·rename_i h1;split at hs
    ·rename_i h2;obtain rfl:=Option.some.inj hs;exact Ft a l c w' (hE.gr gw) i3 (hl.gr gw) hm (by simpa using h1) h2
    ·cases hs
  | none =>
   obtain ⟨hal,h8⟩:=Ce hs;have hck:=fun x (hx:A2 x) => G1 hs hx
   have hsh:=E9 hs;have hk:Am s l = if DM s l = true then none else some 11:=by unfold Am;rw [if_neg (by rw [hp];decide),hs]
   rw [hk];cases hb1:BU s (Ah l) (2 * Bl l) with
   | false =>
    rw [if_neg (by unfold DM;rw [hb1];simp)];exact MT s a l c w hE i0 hp hl hal h8 hsh i1 hb1
   | true =>
    cases hb2:Cr s (AN l 4096) (Bc l) with
    | false =>
     rw [if_neg (by unfold DM;rw [hb2];simp)];exact MS s a l c w hE i0 hp hl hal h8 hck hs hsh i1 hb1 hb2
    | true =>
     have hb:DM s l = true:=by unfold DM;rw [hb1,hb2];rfl
     rw [if_pos hb];exact N9 s a l c w hE i0 hp hl hal h8 hck hs hsh hb
end Go.Proofs.YtdfelohjdkcpkaaGreatDoor
