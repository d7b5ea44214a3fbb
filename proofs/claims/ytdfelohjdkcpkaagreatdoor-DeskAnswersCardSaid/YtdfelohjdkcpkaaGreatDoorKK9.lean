/- tree.copied. Its loop printed by gen_t4.py (turned from Q21). -/
import Derived.Test.YtdfelohjdkcpkaaGreatDoorKK8
import Derived.Shelf.Sort.Plain
import Derived.Shelf.Bits.Mul64
import Derived.Ground.Names2Prog
import Derived.Shelf.Slices.CompactI
import Derived.Shelf.Slices.In.SortNone
import Derived.Test.YtdfelohjdkcpkaaGreatDoorProg
import Derived.Lib.OwnBridge
set_option maxRecDepth 100000
set_option maxHeartbeats 3200000
namespace Go.Proofs.YtdfelohjdkcpkaaGreatDoor
open Go.RowKit
abbrev Ax.obj (x:Ax):Obj:=.cells #[.int .i64 x.e.id,.int .i64 x.e.par,.int .i64 x.e.srv.k,.int .i64 x.e.srv.q,.int .i64 x.e.srv.t,.int .i64 x.e.pol,.slice x.a x.e.tasks.length x.c] 39
theorem Hl {K:Nat→Prop} {w:World} {x:Ax} (h:x.ok K w):x.e.tasks.length * 32≤140737488351232:=h.2.2.2.2
structure A5 (B:Nat) (w:World) (T:TM):Prop where
 n:w.ownsRow B 39 7 (.slice T.an T.N.length T.cn) T.N.length (T.N.flatMap Ax.cells)
 g:w.ownsRow B 43 5 (.slice T.ag T.G.length T.cg) T.G.length (T.G.flatMap Gh.cells)
 k:∀ x ∈ T.N,x.ok (fun b => B≤b) w
 d:∀ x ∈ T.N,∀ ad,x.a = some ad→x.e.tasks ≠ []→(Value.slice T.an T.N.length T.cn).ownBlock ≠ some ad.block
 dg:∀ x ∈ T.N,∀ ad,x.a = some ad→x.e.tasks ≠ []→(Value.slice T.ag T.G.length T.cg).ownBlock ≠ some ad.block
 f:∀ x ∈ T.N,∀ ad,x.a = some ad→x.e.tasks ≠ []→∀ o,w.frozen? ⟨ad.block,o,none⟩ = false
 l1:T.N.length≤1000000
 l2:T.G.length≤1000000
theorem CN {w:World} {B B':Nat} {e:TypeId} {size:Nat} {v:Value} {n:Nat} {xs:List Value} (h:w.ownsRow B e size v n xs) (hb:B'≤B):w.ownsRow B' e size v n xs:=by
 refine ⟨h.1,?_⟩;rcases h.2 with hn | ⟨g,cap,cur,h1,h2,h3⟩
 ·exact .inl hn
 ·exact .inr ⟨g,cap,cur,h1,by omega,h3⟩
theorem A5.base {B B':Nat} {w:World} {T:TM} (h:A5 B w T) (hb:B'≤B):A5 B' w T:=⟨CN h.n hb,CN h.g hb,fun x hx => (h.k x hx).mono (fun b _ hk => by omega),h.d,h.dg,h.f,h.l1,h.l2⟩
theorem A5.gr {B:Nat} {w w':World} {T:TM} (h:A5 B w T) (g:Gr w w'):A5 B w' T:=⟨As h.n g,As h.g g,fun x hx => (h.k x hx).gr g,h.d,h.dg,fun x hx ad ha ht o => by rw [g.cells.2.1 _ _ ((h.k x hx).1.1.lt ha ht)];exact h.f x hx ad ha ht o,h.l1,h.l2⟩
theorem BW {S:List Nat} {w w':World} {base:Nat} {e:TypeId} {size:Nat} {v:Value} {n:Nat} {xs:List Value} (h:w.ownsRow base e size v n xs) (g:Aw S w w') (hS:∀ k,v.ownBlock = some k→k ∉ S):w'.ownsRow base e size v n xs:=by
 refine ⟨h.1,?_⟩;rcases h.2 with hn | ⟨b,cap,cur,h1,h2,h3,h4⟩
 ·exact .inl hn
 ·refine .inr ⟨b,cap,cur,h1,h2,?_,h4⟩;rw [g.block b (Array.getElem?_eq_some_iff.1 h3).1 (hS b (by rw [h1];rfl))];exact h3
theorem A5.grx {B:Nat} {S:List Nat} {w w':World} {T:TM} (h:A5 B w T) (g:Aw S w w') (hS:∀ y,y ∈ S→y < B):A5 B w' T :=
 ⟨BW h.n g (fun k hk hm => by have:=(Ar h.n k hk).2;have:=hS k hm;omega),BW h.g g (fun k hk hm => by have:=(Ar h.g k hk).2;have:=hS k hm;omega),fun x hx => (h.k x hx).grx g (fun y hy hk => by have:=hS y hy;omega),h.d,h.dg,fun x hx ad ha ht o => by
  have h1:=(h.k x hx).1.2 ad ha ht;rw [g.frozen ((h.k x hx).1.1.lt ha ht) (fun hm => by have:=hS _ hm;omega)];exact h.f x hx ad ha ht o,h.l1,h.l2⟩
theorem A5.at {B:Nat} {w:World} {T:TM} (h:A5 B w T):Av (fun b => B≤b) w T:=by
 obtain ⟨a1,c1,e1,r1,n1,b1⟩:=Af Ax.cells_len h.n;obtain ⟨a2,c2,e2,r2,n2,b2⟩:=Af Gh.cells_len h.g;injection e1 with p1 _ p3
 injection e2 with s1 _ s3
 subst p1 p3 s1 s3;exact ⟨⟨⟨r1,fun x hx _ => b1 x hx⟩,h.k⟩,n1,⟨r2,fun x hx _ => b2 x hx⟩,n2,h.l1,h.l2⟩
def NewT (v:Ab) (w:World) (e:Ending) (w':World):Prop:=∃ T:TM,e = .returned (.agg T.row)∧T.v = v∧A5 w.heap.size w' T∧Gr w w'
theorem Dr (T:TM) (w:World) (hT:Av Any w T) :
 Calls Tryz.prog 43 #[.agg T.row] w (NewT T.v w):=by
 obtain ⟨i36,hi,hz0,hz1,hz2⟩:=info_parts Tryz.infoNd;obtain ⟨W,hW⟩:=zE ((w.alloc (.cells T.row 27)).alloc (.cells #[.slice none 0 0,.slice none 0 0,.int .i64 0,.int .i64 0] 27));have gW:Gr w W:=by rw [hW];exact ((Gr.refl w).alloc _).alloc _
 have hO:Ag W w.heap.size T.row 27:=by rw [hW];exact (Ag.new w _ _).alloc _
 have hR:Ag W (w.heap.size + 1) #[.slice none 0 0,.slice none 0 0,.int .i64 0,.int .i64 0] 27:=by
  rw [hW];exact Ag.n1
 have hWz:W.heap.size = w.heap.size + 2:=by rw [hW];simp
 have hTW:=hT.gr gW;obtain ⟨N,an,cn,G,ag,cg,last,now⟩:=T;obtain ⟨L,hLN⟩:=zE N;obtain ⟨h,hnn,hG,hgn,hl1,hl2⟩:=hTW;dsimp only at h hG hnn hgn hl1 hl2;rw [← hLN] at h hl1;have o0:=hO.cell (i:=0) (v:=.slice an L.length cn) (by rw [hLN];rfl);have hm:L.length * 72≤140737488351232:=by omega
 dsimp only [TM.row] at hO hR hW;rw [← hLN] at hO hW;refine Dn ?_ hW hO hR hT hWz hG;clear hW hO hR hT hWz hG;intro hW hO hR hT hWz hG;dsimp only [TM.row];rw [← hLN];replace hLN:=zH hLN;go_enter Tryz.func43,Tryz.ntmps43;go_upto_region 2 with fail
 rw [← hW.out];go_wp2_with fail;clear o0;go_loopw [9,3] (fun iv v wr => ∃ (k:Nat) (L':List Ax),k≤L.length∧iv = .int .i64 k∧L'.length = k∧L'.map (·.e) = (L.take k).map (·.e)∧wr.ownsRow W.heap.size 39 7 v L'.length (L'.flatMap Ax.cells)∧(∀ x ∈ L',x.ok (fun b => W.heap.size≤b) wr∧∀ ad,x.a = some ad→x.e.tasks ≠ []→v.ownBlock ≠ some ad.block)∧(∀ x ∈ L',∀ ad,x.a = some ad→x.e.tasks ≠ []→∀ o,wr.frozen? ⟨ad.block,o,none⟩ = false)∧Gr W wr) (fun iv _ _ => L.length - (intOf iv).toNat);case atStart => exact ⟨0,[],Nat.zero_le _,rfl,rfl,rfl,World.ownsRow_nil _ _ _ _,(fun _ h => by cases h),(fun _ h => by cases h),Gr.refl _⟩
 case round =>
  obtain ⟨k,L',hk,rfl,hlen,hmap,hown,hoks,hfr,hg⟩:=hrel;refine B0 ?_ hlen hmap hoks hfr;clear hlen hmap hoks hfr;intro hlen hmap hoks hfr;by_cases hlt:k < L.length
  ·obtain ⟨x,hx⟩:=Ac L k hlt;obtain ⟨b,off,rfl,hb,_,c0,c1,c2,c3,c4,c5,c6⟩:=(h.gr hg).get hx;have hxo:=(h.gr hg).2 x (AL hx);have hxm:=Hl hxo;replace hx:=zH hx;go_wp2_with fail;refine (Fh x.a x.c x.e.tasks _ (hxo.gr ((Gr.refl wr).alloc x.obj)).1.1 hxo.2.1 hxm).mono ?_;rintro e w1 ⟨a1,d1,rfl,r1,m1,q1,q2,g1,fr1,-⟩;replace fr1:=zH fr1;obtain ⟨k1,j1,s1⟩:=g1.cells;simp only [zL] at k1 j1 s1;have z1:wr.heap.size < w1.heap.size:=by omega
   have kk:=fun o => k1 wr.heap.size o (by omega)
   have jj:=fun o => j1 wr.heap.size o (by omega)
   clear k1 j1;have gW:Gr wr (w1.setCell ⟨wr.heap.size,6,none⟩ (.slice a1 x.e.tasks.length d1)):=(((Gr.refl wr).alloc x.obj).trans g1).setCell (Nat.le_refl _) _;have hown2:=As hown gW;have hl63:L'.length + 1≤maxLen:=by rw [hlen.out];unfold maxLen;omega
   have hby:(L'.length + 1) * 72≤140737488355328:=by rw [hlen.out];omega
   have n3:W.heap.size≤(w1.setCell ⟨wr.heap.size,6,none⟩ (.slice a1 x.e.tasks.length d1)).heap.size:=by have:=hg.size;simp;omega
   have hrec:=An Ax.cells_len (w1.setCell ⟨wr.heap.size,6,none⟩ (.slice a1 x.e.tasks.length d1)) [⟨x.e,a1,d1⟩] 39 (List.toArray (x.e.cells a1 d1)) (by simp);rw [World.size_setCell] at hrec;have hbl:=Ar hown;replace hbl:=zH hbl;go_wp2_with (at_builtin;refine AP (k:=7) (enc:=Ax.cells) rfl _ _ 24 rfl W.heap.size 39 i36 _ 72 Tryz.underlying24 hi hz0 hz1 hz2 rfl (by decide) Ax.cells_len Ax.cells_one _ L' rfl (hown2.alloc _) w1.heap.size 1 ⟨x.e,a1,d1⟩ rfl hrec hl63 hby (BG n3 _) ?_;intro v1 w2 hown1 hgr1 hat);have gW2:Gr wr ((w1.setCell ⟨wr.heap.size,6,none⟩ (.slice a1 x.e.tasks.length d1)).alloc (Ax.obj ⟨x.e,a1,d1⟩)):=gW.alloc _;have hg2:Gr W w2:=(hg.trans gW2).grown hgr1 (fun g hg' => (hbl.out g hg').2);have hx1:Al 4 AA.cells ((w1.setCell ⟨wr.heap.size,6,none⟩ (.slice a1 x.e.tasks.length d1)).alloc (Ax.obj ⟨x.e,a1,d1⟩)) a1 x.e.tasks:=by
    have hr1:=r1.grx (T:=[wr.heap.size]) (((Aw.refl [wr.heap.size] w1).set (.inl (List.mem_singleton.2 rfl)) (.slice a1 x.e.tasks.length d1):Aw [wr.heap.size] w1 (w1.setCell ⟨wr.heap.size,6,none⟩ (.slice a1 x.e.tasks.length d1))).alloc (Ax.obj ⟨x.e,a1,d1⟩)) (fun y hy => by rw [List.mem_singleton.1 hy];simp);exact hr1.1
   have hnew:∀ ad,a1 = some ad→x.e.tasks ≠ []→wr.heap.size < ad.block:=fun ad h1 h2 => by have:=r1.2 ad h1 h2;simp at this;omega
   have hoks2:∀ y ∈ L' ++ [⟨x.e,a1,d1⟩],y.ok (fun b => W.heap.size≤b) w2∧∀ ad,y.a = some ad→y.e.tasks ≠ []→v1.ownBlock ≠ some ad.block:=by
    intro y hy;rcases List.mem_append.1 hy with hy | hy
    ·obtain ⟨o1,o2⟩:=hoks.out y hy;refine ⟨(o1.gr gW2).grown hgr1 o2,fun ad ha ht => ?_⟩;rcases hat with hat | hat
     ·rw [hat];exact o2 ad ha ht
     ·rw [hat];intro e;have e2:((w1.setCell ⟨wr.heap.size,6,none⟩ (.slice a1 x.e.tasks.length d1)).alloc (Ax.obj ⟨x.e,a1,d1⟩)).heap.size = ad.block:=Option.some.inj e;have e3:=o1.1.1.lt ha ht;have e4:=gW2.size;omega
    ·rw [List.mem_singleton.1 hy];refine ⟨⟨⟨hx1.grown hgr1 (fun ad ha ht e => ?_),fun ad ha ht => ?_⟩,m1,q1,q2,hxm⟩,fun ad ha ht e => ?_⟩
     ·have:=(hbl.out _ e).1;have:=hnew ad ha ht;omega
     ·have:=hnew ad ha ht;have:=hg.size;omega
     ·rcases hat with hat | hat
      ·rw [hat] at e;have:=(hbl.out _ e).1;have:=hnew ad ha ht;omega
      ·rw [hat] at e;have e2:((w1.setCell ⟨wr.heap.size,6,none⟩ (.slice a1 x.e.tasks.length d1)).alloc (Ax.obj ⟨x.e,a1,d1⟩)).heap.size = ad.block:=Option.some.inj e;have e3:=hx1.lt ha ht;omega
   have hfr2:∀ y ∈ L' ++ [⟨x.e,a1,d1⟩],∀ ad,y.a = some ad→y.e.tasks ≠ []→∀ o,w2.frozen? ⟨ad.block,o,none⟩ = false:=by
    intro y hy ad ha ht o;rcases List.mem_append.1 hy with hy | hy
    ·obtain ⟨o1,o2⟩:=hoks.out y hy;have e3:=o1.1.1.lt ha ht;rw [hgr1.frozen_far ⟨ad.block,o,none⟩ (Nat.lt_of_lt_of_le e3 gW2.size) (fun e => o2 ad ha ht e.symm),gW2.cells.2.1 _ _ e3];exact hfr.out y hy ad ha ht o
    ·rw [List.mem_singleton.1 hy] at ha ht;have e3:=hx1.lt ha ht;have e4:=r1.1.lt ha ht;rw [hgr1.frozen_far ⟨ad.block,o,none⟩ e3 (fun e => by have h5:ad.block < wr.heap.size:=(hbl.out _ e.symm).1;have:=hnew ad ha ht;omega)];rw [((Gr.refl (w1.setCell ⟨wr.heap.size,6,none⟩ (.slice a1 x.e.tasks.length d1))).alloc (Ax.obj ⟨x.e,a1,d1⟩)).cells.2.1 _ _ (by simpa using e4)];rw [World.frozen?_setCell];exact fr1.out ad ha ht o
   replace hfr2:=zH hfr2;clear hat hgr1 r1 hx1 hnew hbl hoks;have hmap2:(L' ++ [(⟨x.e,a1,d1⟩:Ax)]).map (·.e) = (L.take (k + 1)).map (·.e):=by rw [Ae hx.out,List.map_append,List.map_append,hmap.out];rfl
   replace hmap2:=zH hmap2;replace hoks2:=zH hoks2;go_wp2_with fail;go_roundw;case rel => exact ⟨k + 1,L' ++ [⟨x.e,a1,d1⟩],by omega,by go_num,by rw [List.length_append,hlen.out];rfl,hmap2.out,hown1,hoks2.out,hfr2.out,hg2⟩
   case measure => simp [intOf];omega
  ·have hall:L.take k = L:=List.take_of_length_le (by omega);obtain ⟨a',c',hv,hr,hn,hbb⟩:=Af Ax.cells_len hown;have hL:L'.length = L.length:=by have:=hlen.out;omega
   subst hv;have hOr:=hO.out.gr hg;have hRr:=hR.out.gr hg;have o1:=hOr.cell (i:=1) (v:=.slice ag G.length cg) rfl;replace hOr:=zH hOr;replace hRr:=zH hRr;go_wp2_with fail;refine (Ly ag cg G wr (hG.out.grx (hg.x []) (fun _ h => by cases h)).1 hgn (by omega)).mono ?_;rintro e w2 ⟨a2,c2,rfl,r2,m2,q1,q2,g2,fr2,own2⟩;have hO2:=hOr.out.gr g2;have hR2:=hRr.out.gr g2;obtain ⟨p0,p1,p2,p3⟩:=hO2.c4;have q0:=hR2.cell (i:=0) (v:=.slice none 0 0) rfl;have q1':=hR2.cell (i:=1) (v:=.slice none 0 0) rfl;have q2':=hR2.cell (i:=2) (v:=.int .i64 0) rfl;have q3:=hR2.cell (i:=3) (v:=.int .i64 0) rfl;have fo:=fun i => hO2.free i
   have fr:=fun i => hR2.free i
   have hne:w.heap.size ≠ w.heap.size + 1:=by omega
   refine Br ?_ hO2 hR2 r2 m2 fr2 own2 hown hr;clear hO2 hR2 r2 m2 fr2 own2 hown hr;intro hO2 hR2 r2 m2 fr2 own2 hown hr;clear o1;go_wp2_with fail;have hOT:A5 W.heap.size w2 ⟨L',a',c',G,a2,c2,last,now⟩:=by
    have hgz:=hg.size;refine ⟨As (by rw [hL];rw [hL] at hown;exact hown.out) g2,CN own2.out hgz,fun x hx => (hoks.out x hx).1.gr g2,fun x hx ad ha ht => (hoks.out x hx).2 ad ha ht,fun x hx ad ha ht e => ?_,fun x hx ad ha ht o => ?_,by show L'.length≤1000000;omega,hl2⟩
    ·have h1:=(Ar own2.out _ e).2;have h2:=(hoks.out x hx).1.1.1.lt ha ht;omega
    ·rw [g2.cells.2.1 _ _ ((hoks.out x hx).1.1.1.lt ha ht)];exact hfr.out x hx ad ha ht o
   obtain ⟨w9,hw9⟩:=zE (((((((w2.setCell ⟨w.heap.size,0,none⟩ (.slice a' L.length c')).setCell ⟨w.heap.size,1,none⟩ (.slice a2 G.length c2)).setCell ⟨w.heap.size + 1,0,none⟩ (.slice a' L.length c')).setCell ⟨w.heap.size + 1,1,none⟩ (.slice a2 G.length c2)).setCell ⟨w.heap.size + 1,2,none⟩ (.int .i64 last)).setCell ⟨w.heap.size + 1,3,none⟩ (.int .i64 now)));rw [← hw9];have gx:Aw [w.heap.size,w.heap.size + 1] w2 w9:=by
    rw [hw9];exact ((((((Aw.refl _ _).set (.inl (by simp)) _).set (.inl (by simp)) _).set (.inl (by simp)) _).set (.inl (by simp)) _).set (.inl (by simp)) _).set (.inl (by simp)) _
   have hR9:Ag w9 (w.heap.size + 1) #[.slice a' L.length c',.slice a2 G.length c2,.int .i64 last,.int .i64 now] 27:=by
    rw [hw9];exact (((((hR2.out.other hne.symm _).other hne.symm _).set 0 _).set 1 _).set 2 _).set 3 _
   obtain ⟨d0,d1,d2,d3⟩:=hR9.c4;have hwz:=hWz.out;refine bodyPost_ret (v:=.agg #[.slice a' L.length c',.slice a2 G.length c2,.int .i64 last,.int .i64 now]) (by simp [results,Tryz.results43,go_sem,d0,d1,d2,d3]) rfl ?_;refine ⟨⟨L',a',c',G,a2,c2,last,now⟩,by rw [show TM.row ⟨L',a',c',G,a2,c2,last,now⟩ = #[.slice a' L'.length c',.slice a2 G.length c2,.int .i64 last,.int .i64 now] from rfl,hL],?_,(hOT.grx gx (fun y hy => by simp at hy;omega)).base (by omega),gx.all (gW.trans (hg.trans g2)) (fun y hy => by simp at hy;omega)⟩;show Ab.mk _ _ _ _ = Ab.mk _ _ _ _;rw [hmap.out,hall]
end Go.Proofs.YtdfelohjdkcpkaaGreatDoor
namespace Go.Proofs
open Go.Shelf
def Tryz.lays189_ren:Go.Shelf.Ren:=⟨fun | 189 => 248 | 125 => 268 | 257 => 267 | 128 => 282 | 129 => 283 | 294 => 273 | 295 => 274 | 296 => 275 | 297 => 276 | 298 => 277 | 299 => 278 | 216 => 279 | 300 => 280 | 301 => 281 | 328 => 285 | 329 => 286 | 330 => 287 | 331 => 288 | 332 => 289 | 215 => 193 | 343 => 290 | n => n,fun | 28 => 72 | 3 => 3 | 46 => 290 | 0 => 0 | 51 => 211 | 53 => 191 | 4 => 4 | 183 => 367 | 182 => 366 | 131 => 142 | 5 => 5 | 9 => 9 | 218 => 376 | 222 => 380 | 228 => 382 | 229 => 129 | n => n,fun | n => n⟩
theorem Tryz.lays189:Go.Proofs.Lays.n189 Tryz.prog Tryz.lays189_ren:={
 mixed:=by kernel_rfl
 f125:=Tryz.func268.trans (congrArg some (by kernel_rfl))
 f128:=Tryz.func282.trans (congrArg some (by kernel_rfl))
 f129:=Tryz.func283.trans (congrArg some (by kernel_rfl))
 f189:=Tryz.func248.trans (congrArg some (by kernel_rfl))
 f215:=Tryz.func193.trans (congrArg some (by kernel_rfl))
 f216:=Tryz.func279.trans (congrArg some (by kernel_rfl))
 f257:=Tryz.func267.trans (congrArg some (by kernel_rfl))
 f294:=Tryz.func273.trans (congrArg some (by kernel_rfl))
 f295:=Tryz.func274.trans (congrArg some (by kernel_rfl))
 f296:=Tryz.func275.trans (congrArg some (by kernel_rfl))
 f297:=Tryz.func276.trans (congrArg some (by kernel_rfl))
 f298:=Tryz.func277.trans (congrArg some (by kernel_rfl))
 f299:=Tryz.func278.trans (congrArg some (by kernel_rfl))
 f300:=Tryz.func280.trans (congrArg some (by kernel_rfl))
 f301:=Tryz.func281.trans (congrArg some (by kernel_rfl))
 f328:=Tryz.func285.trans (congrArg some (by kernel_rfl))
 f329:=Tryz.func286.trans (congrArg some (by kernel_rfl))
 f330:=Tryz.func287.trans (congrArg some (by kernel_rfl))
 f331:=Tryz.func288.trans (congrArg some (by kernel_rfl))
 f332:=Tryz.func289.trans (congrArg some (by kernel_rfl))
 f343:=Tryz.func290.trans (congrArg some (by kernel_rfl))
 t0:=Tryz.underlying0
 a0:=Tryz.isAgg0
 z0:=Tryz.sizeOf0
 v0:=Tryz.zeroValue0
 t3:=Tryz.underlying3
 a3:=Tryz.isAgg3
 z3:=Tryz.sizeOf3
 v3:=Tryz.zeroValue3
 t4:=Tryz.underlying4
 a4:=Tryz.isAgg4
 z4:=Tryz.sizeOf4
 v4:=Tryz.zeroValue4
 t5:=Tryz.underlying5
 a5:=Tryz.isAgg5
 z5:=Tryz.sizeOf5
 v5:=Tryz.zeroValue5
 t9:=Tryz.underlying9
 a9:=Tryz.isAgg9
 z9:=Tryz.sizeOf9
 v9:=Tryz.zeroValue9
 t28:=Tryz.underlying72
 a28:=Tryz.isAgg72
 z28:=Tryz.sizeOf72
 v28:=Tryz.zeroValue72
 t46:=Tryz.underlying290
 a46:=Tryz.isAgg290
 z46:=Tryz.sizeOf290
 v46:=Tryz.zeroValue290
 t51:=Tryz.underlying211
 a51:=Tryz.isAgg211
 z51:=Tryz.sizeOf211
 v51:=Tryz.zeroValue211
 t53:=Tryz.underlying191
 a53:=Tryz.isAgg191
 z53:=Tryz.sizeOf191
 v53:=Tryz.zeroValue191
 t131:=Tryz.underlying142
 a131:=Tryz.isAgg142
 z131:=Tryz.sizeOf142
 v131:=Tryz.zeroValue142
 t182:=Tryz.underlying366
 a182:=Tryz.isAgg366
 z182:=Tryz.sizeOf366
 v182:=Tryz.zeroValue366
 t183:=Tryz.underlying367
 a183:=Tryz.isAgg367
 z183:=Tryz.sizeOf367
 v183:=Tryz.zeroValue367
 t218:=Tryz.underlying376
 a218:=Tryz.isAgg376
 z218:=Tryz.sizeOf376
 v218:=Tryz.zeroValue376
 t222:=Tryz.underlying380
 a222:=Tryz.isAgg380
 z222:=Tryz.sizeOf380
 v222:=Tryz.zeroValue380
 t228:=Tryz.underlying382
 a228:=Tryz.isAgg382
 z228:=Tryz.sizeOf382
 v228:=Tryz.zeroValue382
 t229:=Tryz.underlying129
 a229:=Tryz.isAgg129
 z229:=Tryz.sizeOf129
 v229:=Tryz.zeroValue129 }
open Go.Sort Go.RowKit in
theorem Tryz.slices_Sort_int (blk off cap:Nat) (zs:List Int) (w:World) (hH:Holds (Value.int .i64) w blk off zs.toArray) (hblk:blk < w.heap.size) (hsz:zs.length < 4611686018427387904) :
 Calls Tryz.prog 248 #[.slice (some ⟨blk,off,none⟩) zs.length cap] w fun e w' =>
  e = .returned (.tuple #[])∧∃ n os,w' = grow (putRow (Value.int .i64) (Sort.ahead w n) blk off (zs.mergeSort fun x y => decide (x≤y)).toArray) os:=Any.slices_Sort_int Tryz.lays189 blk off cap zs w hH hblk hsz
def Tryz.laysNm220_ren:Go.Shelf.Ren:=⟨fun | 20 => 249 | n => n,fun | 22 => 72 | 3 => 3 | 4 => 4 | 0 => 0 | n => n,fun | n => n⟩
theorem Tryz.laysNm220:Go.Proofs.Lays2.n20 Tryz.prog Tryz.laysNm220_ren:={
 mixed:=by kernel_rfl
 f20:=Tryz.func249.trans (congrArg some (by kernel_rfl))
 t0:=Tryz.underlying0
 a0:=Tryz.isAgg0
 z0:=Tryz.sizeOf0
 v0:=Tryz.zeroValue0
 t3:=Tryz.underlying3
 a3:=Tryz.isAgg3
 z3:=Tryz.sizeOf3
 v3:=Tryz.zeroValue3
 t4:=Tryz.underlying4
 a4:=Tryz.isAgg4
 z4:=Tryz.sizeOf4
 v4:=Tryz.zeroValue4
 t22:=Tryz.underlying72
 a22:=Tryz.isAgg72
 z22:=Tryz.sizeOf72
 v22:=Tryz.zeroValue72
 i3:=by kernel_rfl }
open Go.RowKit Go.Lib Go.Sort in
open Go.RowKit Go.Lib Go.Sort in
theorem Tryz.slices_Compact_int (blk off cap:Nat) (zs:List Int) (w:World) (hH:Holds (Value.int .i64) w blk off zs.toArray) (hsz:zs.length≤9223372036854775807) (hcap:zs.length≤cap) :
 Calls Tryz.prog 249 #[.slice (some ⟨blk,off,none⟩) zs.length cap] w fun e w' => e = .returned (.slice (some ⟨blk,off,none⟩) (Lib.compact zs).length cap)∧∃ q,w' = putRow (Value.int .i64) (Sort.ahead w q) blk off (Lib.compact zs ++ List.replicate (zs.length - (Lib.compact zs).length) 0).toArray:=Any.slices_Compact_int Tryz.laysNm220 blk off cap zs w hH hsz hcap
open Go.RowKit Go.Lib Go.Sort in
theorem Tryz.slices_Compact_int_empty (a:Option Addr) (cap:Nat) (w:World) :
 Calls Tryz.prog 249 #[.slice a 0 cap] w fun e w' => e = .returned (.slice a 0 cap)∧w' = w:=Any.slices_Compact_int_empty Tryz.laysNm220 a cap w
open Go.RowKit Go.Sort in
theorem Tryz.slices_Sort_int_none (p:Option Addr) (cap:Nat) (w:World) :
 Calls Tryz.prog 248 #[.slice p 0 cap] w fun e w' => e = .returned (.tuple #[])∧w' = w:=Any.slices_Sort_int_none Tryz.lays189 p cap w
end Go.Proofs
namespace Go.Proofs.YtdfelohjdkcpkaaGreatDoor
section
open Go.RowKit Go.Sort Go.Lib
theorem ER (l:List Int):l.flatMap EX = l.map (Value.int .i64):=by
 induction l with
 | nil => rfl
 | cons a l ih => rw [List.flatMap_cons,ih];rfl
theorem ML {w:World} {base:Nat} {e:TypeId} {size:Nat} {v:Value} {n:Nat} {xs:List Value} (h:w.ownsRow base e size v n xs) (os:Array Obj):(grow w os).ownsRow base e size v n xs:=by
 refine ⟨h.1,?_⟩;rcases h.2 with hn | ⟨b,cap,cur,h1,h2,h3,h4⟩
 ·exact .inl hn
 ·exact .inr ⟨b,cap,cur,h1,h2,by rw [heap_grow_old w os (Array.getElem?_eq_some_iff.1 h3).1];exact h3,h4⟩
theorem O0 {W w:World} (h:Gr W w) (os:Array Obj):Gr W (grow w os) :=
 ⟨h.os,h.tape,h.output,by have:=h.size;simp;omega,fun k hk => by rw [heap_grow_old w os (by have:=h.size;omega)];exact h.block k hk⟩
theorem KV {W w:World} {base:Nat} {v:Value} {ls:List Int} (h:w.ownsRow base 3 1 v ls.length (ls.flatMap EX)) (g:Gr W w) (hb:W.heap.size≤base) (hl:ls.length≤40000) :
 Calls Tryz.prog 248 #[v] w fun e w' => e = .returned (.tuple #[])∧Gr W w'∧w'.ownsRow base 3 1 v ls.length ((ls.mergeSort fun x y => decide (x≤y)).flatMap EX):=by
 rw [ER] at h;rw [ER];by_cases hv:v = .slice none 0 0
 ·subst hv;have h0:ls.length = 0:=by
   rcases h.2 with ⟨_,h0⟩ | ⟨g,cap,cur,e0,_⟩
   ·exact h0
   ·cases e0
  obtain rfl:=List.length_eq_zero_iff.1 h0;refine (Tryz.slices_Sort_int_none none 0 w).mono ?_;rintro e w' ⟨rfl,rfl⟩;exact ⟨rfl,g,by simpa using h⟩
 ·obtain ⟨q,cap,rfl,hbq,hq,hn,hm,hlen,hH⟩:=holds_of_ownsRow h hv;refine (Tryz.slices_Sort_int q 0 cap ls w hH hq (by omega)).mono ?_;rintro e w' ⟨rfl,n,os,rfl⟩;refine ⟨rfl,O0 (below_putRow g (by omega)) os,ML ?_ os⟩;have:=ownsRow_putRow (q:=n) (k:=ls.length) h (ys:=ls.mergeSort fun x y => decide (x≤y)) (by simp) (Nat.le_refl _)
  rwa [List.take_of_length_le (by simp)] at this
theorem H9 {W w:World} {base:Nat} {v:Value} {ls:List Int} (h:w.ownsRow base 3 1 v ls.length (ls.flatMap EX)) (g:Gr W w) (hb:W.heap.size≤base) (hl:ls.length≤40000) :
 Calls Tryz.prog 249 #[v] w fun e w' => ∃ v',e = .returned v'∧Gr W w'∧w'.ownsRow base 3 1 v' (compact ls).length ((compact ls).flatMap EX):=by
 rw [ER] at h;rw [ER];by_cases hv:v = .slice none 0 0
 ·subst hv;have h0:ls.length = 0:=by
   rcases h.2 with ⟨_,h0⟩ | ⟨g,cap,cur,e0,_⟩
   ·exact h0
   ·cases e0
  obtain rfl:=List.length_eq_zero_iff.1 h0;refine (Tryz.slices_Compact_int_empty none 0 w).mono ?_;rintro e w' ⟨rfl,rfl⟩;exact ⟨_,rfl,g,h⟩
 ·obtain ⟨q,cap,rfl,hbq,hq,hn,hm,hlen,hH⟩:=holds_of_ownsRow h hv;refine (Tryz.slices_Compact_int q 0 cap ls w hH (by omega) hn).mono ?_;rintro e w' ⟨rfl,n,rfl⟩;have hcl:=compact_length_le ls;refine ⟨_,rfl,below_putRow g (by omega),?_⟩;have:=ownsRow_putRow (q:=n) (k:=(compact ls).length) h (ys:=compact ls ++ List.replicate (ls.length - (compact ls).length) 0) (by simp;omega) hcl
  rwa [List.take_left'  rfl] at this
theorem Kd {ls:List Int} {x:Int}:x ∈ compact ls ↔ x ∈ ls:=by
 unfold compact compactUpTo;rw [List.mem_map];constructor
 ·rintro ⟨j,hj,rfl⟩;have h1:=List.mem_range.1 (List.mem_filter.1 hj).1;have e1:ls.toArray[j]! = ls[j]:=by simp [getElem!_pos,h1]
  rw [e1];exact List.getElem_mem h1
 ·intro hx;obtain ⟨i,hi,rfl⟩:=List.getElem_of_mem hx;have key:∀ i,(hi:i < ls.length)→∃ j,j ∈ (List.range ls.length).filter (keeps ls.toArray)∧ls.toArray[j]! = ls[i]:=by
   intro i;induction i with
   | zero =>
    intro hi;exact ⟨0,List.mem_filter.2 ⟨List.mem_range.2 hi,by simp [keeps]⟩,by simp [getElem!_pos,hi]⟩
   | succ i ih =>
    intro hi;by_cases he:ls[i + 1] = ls[i]
    ·obtain ⟨j,hj,hj2⟩:=ih (by omega);exact ⟨j,hj,by rw [hj2,he]⟩
    ·refine ⟨i + 1,List.mem_filter.2 ⟨List.mem_range.2 hi,?_⟩,by simp [getElem!_pos,hi]⟩;refine keeps_pos ?_;simp [getElem!_pos,hi,show i < ls.length by omega];exact he
  exact key i hi
end
open Go.RowKit Go.Lib
def Dv (l:List AA) (ls:List Int):Prop:=∀ x,x ∈ ls ↔ (x≤4096∧Ds l x = true)
theorem Ni:Dv [] []:=fun x => by simp [Ds]
theorem Lu {l:List AA} {t:AA} {ls ls':List Int} {j:Nat} (h:Dv l ls) (ht:Ia t) (hm:∀ x,x ∈ ls' ↔ x ∈ ls ∨ ∃ i:Nat,i < j∧x = t.d + i * t.p) (h1:4096 < t.d + j * t.p) (h2:∀ i:Nat,i < j→t.d + i * t.p≤4096):Dv (l ++ [t]) ls':=by
 obtain ⟨a1,a2,a3,a4,a5,a6⟩:=ht;intro x;rw [hm x,h x];have e:Ds (l ++ [t]) x = (Ds l x || decide (t.d≤x∧(x - t.d) % t.p = 0)):=by unfold Ds;simp
 rw [e,Bool.or_eq_true,decide_eq_true_iff];constructor
 ·rintro (⟨b1,b2⟩ | ⟨i,hi,rfl⟩)
  ·exact ⟨b1,.inl b2⟩
  ·refine ⟨h2 i hi,.inr ⟨?_,?_⟩⟩
   ·have:=Int.mul_nonneg (show (0:Int)≤i by omega) (show 0≤t.p by omega);omega
   ·rw [show t.d + i * t.p - t.d = i * t.p by omega,Int.mul_emod_left]
 ·rintro ⟨b1,b2 | ⟨b2,b3⟩⟩
  ·exact .inl ⟨b1,b2⟩
  ·right;have e1:=Int.mul_ediv_add_emod (x - t.d) t.p;have e2:=Int.ediv_nonneg (show 0≤x - t.d by omega) (show 0≤t.p by omega);have e3:(((x - t.d) / t.p).toNat:Int) = (x - t.d) / t.p:=by omega
   generalize (x - t.d) / t.p = q at *;have e4:q * t.p = t.p * q:=Int.mul_comm _ _;refine ⟨q.toNat,?_,by rw [e3];omega⟩;by_cases hq:q.toNat < j
   ·exact hq
   ·have e5:=Int.mul_le_mul_of_nonneg_right (show (j:Int)≤q by omega) (show 0≤t.p by omega);omega
theorem Il {t:AA} (ht:Ia t) {j:Nat} (h:∀ i:Nat,i < j→t.d + i * t.p≤4096):j≤4096:=by
 obtain ⟨a1,a2,a3,a4,a5,a6⟩:=ht;cases j with
 | zero => omega
 | succ j =>
  have h1:=h j (by omega);have h2:=Int.mul_le_mul_of_nonneg_left (show 1≤t.p by omega) (show (0:Int)≤j by omega);omega
theorem Ph {w:World} {base:Nat} {e:TypeId} {size:Nat} {v:Value} {n:Nat} {xs:List Value} (h:w.ownsRow base e size v n xs) {b:Nat} {cs:Array Value} {t:TypeId} (hb:Ag w b cs t) (hte:t ≠ e):some b ≠ v.ownBlock:=by
 intro he;obtain ⟨_,h | ⟨g,cap,cur,hv,hg,hh,_⟩⟩:=h
 ·obtain ⟨rfl,_⟩:=h;simp [Value.ownBlock] at he
 ·subst hv;simp only [Value.ownBlock,Option.some.injEq] at he;subst he;unfold Ag at hb;rw [hh] at hb;cases hb
  exact hte rfl
theorem Ag.grown {w w':World} {b:Nat} {cs:Array Value} {t:TypeId} {row:Option Nat} (h:Ag w b cs t) (hg:w.grownBy w' row) (hn:some b ≠ row):Ag w' b cs t:=by unfold Ag;rw [hg.block b h.lt hn];exact h
theorem E1 (a:Option Addr) (l:List AA) (c:Nat) (w:World) (hl:A1 w a l) (hok:AF l = true) :
 Calls Tryz.prog 215 #[.slice a l.length c] w fun e w' => ∃ aL ls cL,e = .returned (.slice aL ls.length cL)∧ls.length≤40000∧Dv l ls∧Dl w' aL ls∧Gr w w':=by
 obtain ⟨i3,hi,hz0,hz1,hz2⟩:=info_parts Tryz.infoInt;have h8:=(Ay hok).2;have hleg:=fun k t (h:l[k]? = some t) => BQ hok h
 replace hok:=zH hok;replace hleg:=zH hleg;go_enter Tryz.func215,Tryz.ntmps215;go_wp2_with fail;go_loopw [9,3] (fun iv ov wr => ∃ (k:Nat) (ls:List Int),k≤l.length∧iv = .int .i64 k∧ls.length≤k * 4096∧Dv (l.take k) ls∧wr.ownsRow w.heap.size 3 1 ov ls.length (ls.flatMap EX)∧Gr w wr) (fun iv _ _ => l.length - (intOf iv).toNat);case atStart => exact ⟨0,[],Nat.zero_le _,rfl,by simp,by rw [List.take_zero];exact Ni,World.ownsRow_nil _ _ _ _,Gr.refl _⟩
 case round =>
  obtain ⟨k,ls,hk,rfl,hln,hde,hown,hg⟩:=hrel;replace hde:=zH hde;by_cases hlt:k < l.length
  ·obtain ⟨t,ht⟩:=Ac l k hlt;obtain ⟨b,off,rfl,hb,c0,c1,c2,c3⟩:=(hl.gr hg) k t ht;have hlt':=hleg.out k t ht;have hts:=Ae ht;obtain ⟨a1,a2,a3,a4,a5,a6⟩:=hlt';replace hts:=zH hts;replace ht:=zH ht;obtain ⟨wo,rfl⟩:∃ wo:World,wo = wr:=⟨_,rfl⟩
   have gwo:=hg.alloc (.cells #[.int .i64 t.c,.int .i64 t.p,.int .i64 t.d,.int .i64 t.s] 41);have hB:=Ag.new wo #[.int .i64 t.c,.int .i64 t.p,.int .i64 t.d,.int .i64 t.s] 41;have hown0:=As hown ((Gr.refl wo).alloc (.cells #[.int .i64 t.c,.int .i64 t.p,.int .i64 t.d,.int .i64 t.s] 41));replace hB:=zH hB;have hwb:w.heap.size≤wo.heap.size:=hg.size;clear hown;go_wp2_with fail;go_loopw [6,3] (fun lv ov wr => ∃ (j:Nat) (ls':List Int),lv = .int .i64 (t.d + j * t.p)∧ls'.length = ls.length + j∧(∀ x,x ∈ ls' ↔ x ∈ ls ∨ ∃ i:Nat,i < j∧x = t.d + i * t.p)∧(∀ i:Nat,i < j→t.d + i * t.p≤4096)∧wr.ownsRow w.heap.size 3 1 ov ls'.length (ls'.flatMap EX)∧Ag wr wo.heap.size #[.int .i64 t.c,.int .i64 t.p,.int .i64 t.d,.int .i64 t.s] 41∧Gr w wr) (fun lv _ _ => 8192 - (intOf lv).toNat);case atStart => exact ⟨0,ls,by go_num,by omega,(fun x => by simp),(fun i hi => by omega),hown0,hB.out,gwo⟩
   case round =>
    obtain ⟨j,ls',rfl,hlj,hmem,hfew,hown,hBt,hgr⟩:=hrel;have hj4:=Il ⟨a1,a2,a3,a4,a5,a6⟩ hfew;have hjp:0≤(j:Int) * t.p:=Int.mul_nonneg (by omega) (by omega);have hjp2:(j:Int) * t.p≤4096 * 256:=Int.mul_le_mul (by omega) (by omega) (by omega) (by omega);have c0:=hBt.cell (i:=1) (v:=.int .i64 t.p) rfl;have hjn:t.d + ((j + 1:Nat):Int) * t.p = t.d + (j:Int) * t.p + t.p:=by push_cast;rw [Int.add_mul];omega
    refine AZ ?_ hmem hfew hBt;clear hmem hfew hBt;intro hmem hfew hBt;have hsz:=hgr.size;have hwt:wo.heap.size < wr.heap.size:=hBt.out.lt;by_cases hle:t.d + (j:Int) * t.p≤4096
    ·obtain ⟨v0,hv0⟩:∃ v0,v0 = t.d + (j:Int) * t.p:=⟨_,rfl⟩
     rw [← hv0] at hle hjn ⊢;have hmem2:∀ x,x ∈ ls' ++ [v0] ↔ x ∈ ls ∨ ∃ i:Nat,i < j + 1∧x = t.d + i * t.p:=fun x => by
      rw [List.mem_append,hmem.out x,List.mem_singleton];constructor
      ·rintro ((h1 | ⟨i,hi,rfl⟩) | rfl)
       ·exact .inl h1
       ·exact .inr ⟨i,by omega,rfl⟩
       ·exact .inr ⟨j,by omega,hv0⟩
      ·rintro (h1 | ⟨i,hi,rfl⟩)
       ·exact .inl (.inl h1)
       ·by_cases hij:i = j
        ·subst hij;exact .inr hv0.symm
        ·exact .inl (.inr ⟨i,by omega,rfl⟩)
     have hfew2:∀ i:Nat,i < j + 1→t.d + i * t.p≤4096:=fun i hi => by
      by_cases hij:i = j
      ·subst hij;omega
      ·exact hfew.out i (by omega)
     have hj5:=Il ⟨a1,a2,a3,a4,a5,a6⟩ hfew2;have hv1:0≤v0:=by omega
     refine B0 ?_ hmem2 hfew2 hv0 hjn;clear hmem2 hfew2 hv0 hjn;intro hmem2 hfew2 hv0 hjn;have n1:ls'.length + ([v0]:List Int).length≤maxLen:=by unfold maxLen;simp;omega
     have n2:(ls'.length + ([v0]:List Int).length) * 8≤140737488355328:=by simp;omega
     have n3:w.heap.size≤wr.heap.size:=hsz;have n4:(ls' ++ [v0]).length = ls.length + (j + 1):=by rw [List.length_append,hlj];simp;omega
     replace n4:=zH n4;go_wp2_with (at_builtin;refine Ai (k:=1) (enc:=EX) rfl _ _ 72 rfl w.heap.size 3 i3 _ 8 Tryz.underlying72 hi hz0 hz1 hz2 rfl (by decide) CE Hr _ ls' rfl (hown.alloc _) (some ⟨wr.heap.size,0,none⟩) 1 [v0] rfl (An CE wr [v0] _ _ rfl) (fun h => by cases h) n1 n2 (BG n3 _) ?_;intro v1 w1 hown1 hgr1;have hB1:=(hBt.out.alloc (.cells #[.int .i64 v0] 3)).grown hgr1 (Ph hown hBt.out (by decide));have hg1:Gr w w1:=(hgr.alloc _).grown hgr1 (A7 hown);have c7:=hB1.cell (i:=1) (v:=.int .i64 t.p) rfl;replace hB1:=zH hB1);go_roundw;case rel => exact ⟨j + 1,_,by rw [hjn.out],n4.out,hmem2.out,hfew2.out,hown1,hB1.out,hg1⟩
     case measure => simp [intOf];omega
    ·have hgt:4096 < t.d + (j:Int) * t.p:=by omega
     have hd2:Dv (l.take (k + 1)) ls':=by
      rw [hts.out];exact Lu hde.out ⟨a1,a2,a3,a4,a5,a6⟩ hmem.out hgt hfew.out
     replace hd2:=zH hd2;go_wp2_with fail;go_roundw;case rel => exact ⟨k + 1,ls',by omega,by go_num,by omega,hd2.out,hown,hgr⟩
     case measure => simp [intOf];omega
  ·have hall:l.take k = l:=List.take_of_length_le (by omega);rw [hall] at hde;have h40:ls.length≤40000:=by omega
   go_wp2_with fail;refine (KV hown hg (Nat.le_refl _) h40).mono ?_;rintro e w2 ⟨rfl,g2,hown2⟩;have hlm:(ls.mergeSort fun x y => decide (x≤y)).length = ls.length:=List.length_mergeSort ls;have hown3:w2.ownsRow w.heap.size 3 1 u3 (ls.mergeSort fun x y => decide (x≤y)).length ((ls.mergeSort fun x y => decide (x≤y)).flatMap EX):=by rw [hlm];exact hown2
   have hde2:Dv l (compact (ls.mergeSort fun x y => decide (x≤y))):=fun x => by
    rw [Kd,List.mem_mergeSort];exact hde.out x
   have hlc:=compact_length_le (ls.mergeSort fun x y => decide (x≤y));have hcm:=H9 hown3 g2 (Nat.le_refl _) (by omega);have hlc2:(compact (ls.mergeSort fun x y => decide (x≤y))).length≤40000:=by omega
   generalize compact (ls.mergeSort fun x y => decide (x≤y)) = ls2 at *;clear hown2 hown3 hown;replace hde2:=zH hde2;replace hcm:=zH hcm;go_wp2_with fail;refine hcm.out.mono ?_;rintro e w3 ⟨v3,rfl,g3,hown4⟩;obtain ⟨a3,c3,rfl,hr3,_,_⟩:=Af CE hown4;replace hr3:=zH hr3;clear hown4;go_wp2_with fail;go_ret;exact ⟨a3,ls2,c3,rfl,hlc2,hde2.out,hr3.out,g3⟩
end Go.Proofs.YtdfelohjdkcpkaaGreatDoor
namespace Go.Proofs.YtdfelohjdkcpkaaGreatDoor
open Go.RowKit
theorem MZ (lb:Nat) (a:Option Addr) (l:List AA) (c:Nat) (n:Int) (w:World) (hl:A1 w a l) (h:KC l n = none) (hc:w.cell? ⟨lb,0,none⟩ = some (.slice a l.length c)) :
 Calls Tryz.prog 213 #[.int .i64 n,.pointer (some ⟨lb,0,none⟩)] w fun e w' => e = .returned (.tuple #[.int .i64 (A3 l n),.nilIface])∧Gr w w':=by
 have hd:=Lp a l c n w hl h;have hlb:=FG hc;replace h:=zH h;replace hd:=zH hd;go_enter Tryz.func213,Tryz.ntmps213;go_wp2_with fail;refine (hd.out).mono ?_;rintro e wa ⟨rfl,ga⟩;obtain ⟨ca,fa,sa⟩:=ga.cells;try simp only [Aa] at ca fa sa
 try simp only [zL] at ca fa sa
 try simp only [zD] at ca fa sa
 try simp only [zS] at ca fa sa
 go_wp2_with fail;go_ret2;exact ⟨rfl,ga⟩
theorem Mh {l:List AA} (h:AF l = true) {n:Int} (hn:A2 n):0≤A3 l n∧A3 l n≤8 * (1099511627776 + 256) + 256:=by
 have h1:=GV h hn l.length;have h2:=Js h (n:=n) l.length;rw [List.take_length] at h1 h2;unfold A3;split <;> omega
theorem Gs (s:Ao) (aL:Option Addr) (ls:List Int) (cL:Nat) (lb:Nat) (a:Option Addr) (l:List AA) (c:Nat) (w:World) (h:AE s = true) (hL:Dl w aL ls) (hm:ls.length≤40000) (hls:∀ x ∈ ls,A2 x) (hl:A1 w a l) (hk:∀ x,A2 x→KC l x = none) (hok:AF l = true) (hc:w.cell? ⟨lb,0,none⟩ = some (.slice a l.length c)) :
 Calls Tryz.prog 202 #[.agg #[.int .i64 s.k,.int .i64 s.q,.int .i64 s.t],.slice aL ls.length cL,.func (.func 213) #[] #[.pointer (some ⟨lb,0,none⟩)]] w fun e w' => e = .returned (.bool (Cr s ls (A3 l)))∧Gr w w':=by
 have hlb:=FG hc;unfold Cr;replace hok:=zH hok;go_enter Tryz.func202,Tryz.ntmps202;go_wp2_with fail;go_loopw [14] (fun iv wr => ∃ k:Nat,k≤ls.length∧iv = .int .i64 k∧(ls.take k).all (fun l' => decide (A3 l l'≤Au (Ak s) l')) = true∧Gr (w.alloc (.cells #[.int .i64 s.k,.int .i64 s.q,.int .i64 s.t] 29)) wr) (fun iv _ => ls.length - (intOf iv).toNat);case atStart => exact ⟨0,Nat.zero_le _,rfl,rfl,Gr.refl _⟩
 case round =>
  obtain ⟨k,hkl,rfl,hall,hg⟩:=hrel;have gall:Gr w wr:=((Gr.refl w).alloc _).trans hg;obtain ⟨cg,fg,sg⟩:=hg.cells;simp only [zL] at cg fg sg;have k1:=fun o => cg w.heap.size o (by omega)
  clear cg fg;replace hall:=zH hall;by_cases hlt:k < ls.length
  ·obtain ⟨x,hx⟩:=Ac ls k hlt;obtain ⟨b,off,rfl,hb,c0⟩:=(hL.gr gall).get hx;have hxo:=hls x (AL hx);have hts:=Ae hx;have hbd:=Mh hok.out hxo;have hgv:=Bx (Be h) x;have hgl:=Dy (Be h) hxo.1;have hxo2:=hxo.2;have hk1:=fun w' (g:Gr w w') => MZ lb a l c x w' (hl.gr g) (hk x hxo) (by rw [g.cells.1 lb 0 hlb];exact hc)
   have hbo:=fun w' => EW s x w' h hxo
   obtain ⟨v,hv⟩:=zE (decide (A3 l x≤Au (Ak s) x));have hnext:(ls.take (k + 1)).all (fun l' => decide (A3 l l'≤Au (Ak s) l')) = v:=by
    rw [hts,List.all_append,hall.out,hv];simp
   have hno:v = false→ls.all (fun l' => decide (A3 l l'≤Au (Ak s) l')) = false:=fun hvf => by
    cases hh:ls.all (fun l' => decide (A3 l l'≤Au (Ak s) l')) with
    | false => rfl
    | true =>
     have:=List.all_eq_true.1 hh x (AL hx);rw [← hv,hvf] at this;cases this
   obtain ⟨hbd1,hbd2⟩:=hbd;refine B0 ?_ hnext hno hk1 hbo;clear hnext hno hk1 hbo;intro hnext hno hk1 hbo;clear hts;replace hx:=zH hx;replace hxo:=zH hxo;cases v with
   | true =>
    have hle:A3 l x≤Au (Ak s) x:=of_decide_eq_true hv.symm;clear hv;go_wp2_with fail;refine (hk1.out wr gall).mono ?_;rintro e w2 ⟨rfl,g2⟩;obtain ⟨c2,f2,s2⟩:=g2.cells;have k2:=fun o => c2 w.heap.size o (by omega)
    clear c2 f2;go_wp2_with fail;refine (hbo.out _).mono ?_;rintro e w3 ⟨rfl,g3⟩;go_wp2_with fail;go_roundw;case rel => exact ⟨k + 1,by omega,by go_num,hnext.out,(hg.trans g2).trans g3⟩
    case measure => simp [intOf];omega
   | false =>
    have hle:Au (Ak s) x < A3 l x:=by have:=of_decide_eq_false hv.symm;omega
    clear hv;go_wp2_with fail;refine (hk1.out wr gall).mono ?_;rintro e w2 ⟨rfl,g2⟩;obtain ⟨c2,f2,s2⟩:=g2.cells;have k2:=fun o => c2 w.heap.size o (by omega)
    clear c2 f2;go_wp2_with fail;refine (hbo.out _).mono ?_;rintro e w3 ⟨rfl,g3⟩;go_wp2_with fail;go_ret;exact ⟨C5 (hno.out trivial).symm,(gall.trans g2).trans g3⟩
  ·have hall2:ls.take k = ls:=List.take_of_length_le (by omega);rw [hall2] at hall;go_wp2_with fail;go_ret;exact ⟨C5 hall.out.symm,gall⟩
def Hv (s:Ao) (l:List AA):Bool:=(List.range 4097).all fun n => !Ds l (n:Int) || decide (A3 l n≤Au (Ak s) n)
theorem FD {l:List AA} (hok:AF l = true) {x:Int} (h:Ds l x = true):1≤x:=by
 unfold Ds at h;rw [List.any_eq_true] at h;obtain ⟨t,ht,hd⟩:=h;obtain ⟨h1,h2,_⟩:=(Ay hok).1 t ht;have:=(of_decide_eq_true hd).1;omega
theorem F3 {s:Ao} {l:List AA}:Hv s l = true ↔ ∀ n:Nat,n≤4096→Ds l n = true→A3 l n≤Au (Ak s) n:=by
 unfold Hv;rw [List.all_eq_true];constructor
 ·intro h n hn hd;have:=h n (List.mem_range.2 (by omega));rw [hd] at this;exact of_decide_eq_true this
 ·intro h n hn;cases hd:Ds l (n:Int) with
  | false => rfl
  | true => exact decide_eq_true (h n (by have:=List.mem_range.1 hn;omega) hd)
theorem Gt {s:Ao} {l:List AA} {ls:List Int} (hok:AF l = true) (h:Dv l ls):Cr s ls (A3 l) = Hv s l:=by
 rw [Bool.eq_iff_iff,F3];unfold Cr;rw [List.all_eq_true];constructor
 ·intro hb n hn hd;exact of_decide_eq_true (hb n ((h n).2 ⟨by omega,hd⟩))
 ·intro hb x hx;obtain ⟨h1,h2⟩:=(h x).1 hx;have h3:=FD hok h2;have e:((x.toNat:Nat):Int) = x:=by omega
  have:=hb x.toNat (by omega) (by rw [e];exact h2);rw [e] at this;exact decide_eq_true this
theorem L6 {l:List AA} (hok:AF l = true) {x:Int} (hx:A2 x):KC l x = none:=by
 obtain ⟨h1,h2⟩:=hx;unfold KC;rw [if_neg (by rw [hok];decide),if_neg (by omega)]
end Go.Proofs.YtdfelohjdkcpkaaGreatDoor
