/- alive of law 13. Printed by gen_u3.py. -/
import Derived.Test.YtdfelohjdkcpkaaGreatDoorK18
import Derived.Test.YtdfelohjdkcpkaaGreatDoorK10
import Derived.Test.YtdfelohjdkcpkaaGreatDoorK9
import Derived.Test.YtdfelohjdkcpkaaGreatDoorK8
import Derived.Test.YtdfelohjdkcpkaaGreatDoorK5
import Derived.Test.YtdfelohjdkcpkaaGreatDoorK2
import Derived.Test.YtdfelohjdkcpkaaGreatDoorK7
import Derived.Deep.DeepCutAuto
import Derived.Test.YtdfelohjdkcpkaaGreatDoorK11
namespace Go.Proofs.YtdfelohjdkcpkaaGreatDoor
open Go.RowKit
theorem recs_nil0 {w:World}:RecsAt 4 Tsk.cells w none []:=fun i s h => by simp at h
set_option maxRecDepth 100000 in
set_option maxHeartbeats 3200000 in
theorem alive13_any {G:List Nat} {E:Nat→Addr} (w:World) (hE:EAt G E w) (i0:9 ∈ G) (i1:11 ∈ G) (i3:6 ∈ G) (i4:10 ∈ G) :
 Calls Tryz.prog 12 #[] w fun e w' => e = .returned (.bool true)∧Gr w w':=by
 have hs1:Sane 1 ⟨[⟨1,0,⟨1,2,10⟩,0,[]⟩],[],1,0⟩:=by
  have:=Sane.zero.step ⟨1,0,⟨1,2,10⟩,0,[],0⟩;rw [ali1] at this;exact this
 have h1:∀ W,Gr w W→Calls Tryz.prog 13 #[.agg #[.slice none 0 0,.slice none 0 0,.int .i64 0,.int .i64 0],.agg #[.int .i64 1,.int .i64 0,.int .i64 1,.int .i64 2,.int .i64 10,.int .i64 0,.slice none 0 0,.int .i64 0]] W (NewR (⟨[⟨1,0,⟨1,2,10⟩,0,[]⟩],[],1,0⟩,0,1) W):=fun W g => by
  have:=apply_any ⟨[],none,0,[],none,0,0,0⟩ W (hE.gr g) i0 i1 i3 i4 (TreeAt.none _ _ _ _) (n:=0) Sane.zero (by omega) ⟨1,0,⟨1,2,10⟩,0,[],0⟩ none 0 (by decide) recs_nil0 (fun _ => rfl) (by decide);rw [show (TM.mk [] none 0 [] none 0 0 0).v.apply ⟨1,0,⟨1,2,10⟩,0,[],0⟩ = _ from ali1] at this;exact this
 have h2:∀ (W:World) (T:TM),Gr w W→T.v = ⟨[⟨1,0,⟨1,2,10⟩,0,[]⟩],[],1,0⟩→TreeAt Any W T→Calls Tryz.prog 13 #[.agg #[.slice T.an T.N.length T.cn,.slice T.ag T.G.length T.cg,.int .i64 T.last,.int .i64 T.now],.agg #[.int .i64 1,.int .i64 1,.int .i64 1,.int .i64 1,.int .i64 10,.int .i64 0,.slice none 0 0,.int .i64 0]] W (fun e w' => ∃ T':TM,e = .returned (.tuple #[.agg T'.row,.agg #[.int .i64 4,.int .i64 0]])∧Gr W w'):=fun W T g hv hT => by
  have:=apply_any T W (hE.gr g) i0 i1 i3 i4 hT (n:=1) (by rw [hv];exact hs1) (by omega) ⟨1,1,⟨1,1,10⟩,0,[],0⟩ none 0 (by decide) recs_nil0 (fun _ => rfl) (by decide);rw [hv] at this;refine this.mono (fun e w' ⟨T',he,_,_,g'⟩ => ⟨T',?_,g'⟩);rw [ali2] at he;exact he
 have h3:∀ (W:World) (T:TM),Gr w W→T.v = ⟨[⟨1,0,⟨1,2,10⟩,0,[]⟩],[],1,0⟩→TreeAt Any W T→Calls Tryz.prog 13 #[.agg #[.slice T.an T.N.length T.cn,.slice T.ag T.G.length T.cg,.int .i64 T.last,.int .i64 T.now],.agg #[.int .i64 3,.int .i64 1,.int .i64 0,.int .i64 0,.int .i64 0,.int .i64 0,.slice none 0 0,.int .i64 5]] W (NewR (⟨[],[⟨0,⟨1,2,10⟩,7⟩],1,5⟩,0,1) W):=fun W T g hv hT => by
  have:=apply_any T W (hE.gr g) i0 i1 i3 i4 hT (n:=1) (by rw [hv];exact hs1) (by omega) ⟨3,1,⟨0,0,0⟩,0,[],5⟩ none 0 (by decide) recs_nil0 (fun _ => rfl) (by decide);rw [hv,ali3] at this;exact this
 replace h1:=Lib.hid h1;replace h2:=Lib.hid h2;replace h3:=Lib.hid h3;go_enter Tryz.func12,Tryz.ntmps12;go_wp2_with fail;refine (h1.out _ (Gr.refl _)).mono ?_;rintro e w1 ⟨T1,rfl,hv1,hT1,g1⟩;replace hT1:=hT1.at;obtain ⟨p1,hp1⟩:∃ p1,p1 = w1.heap.size:=⟨_,rfl⟩
 obtain ⟨w2,hw2⟩:∃ w2,w2 = (w1.alloc (.cells T1.row 27)).alloc (.cells #[.int .i64 0,.int .i64 1] 34):=⟨_,rfl⟩
 have gw2:Gr w1 w2:=by rw [hw2];exact ((Gr.refl _).alloc _).alloc _
 have hXw2:Blk w2 p1 T1.row 27:=by rw [hw2,hp1];exact (Blk.new _ _ _).alloc _
 have hYw2:Blk w2 (p1 + 1) #[.int .i64 0,.int .i64 1] 34:=by
  rw [hw2,hp1];have:=Blk.new (w1.alloc (.cells T1.row 27)) #[.int .i64 0,.int .i64 1] 34;rw [World.size_alloc] at this;exact this
 have gWw2:Gr w w2:=(g1).trans gw2;replace hw2:=Lib.hid hw2;replace hp1:=Lib.hid hp1;go_upto_region 2 with fail
 rw [← hp1.out,← hw2.out];have x0:=hXw2.cell (i:=0) (v:=.slice T1.an T1.N.length T1.cn) rfl;have x1:=hXw2.cell (i:=1) (v:=.slice T1.ag T1.G.length T1.cg) rfl;have x2:=hXw2.cell (i:=2) (v:=.int .i64 T1.last) rfl;have x3:=hXw2.cell (i:=3) (v:=.int .i64 T1.now) rfl;have hTa:=(hT1.gr gw2).any;replace hXw2:=Lib.hid hXw2;replace hYw2:=Lib.hid hYw2;have hc:=h2.out w2 T1 gWw2 hv1 hTa;replace hc:=Lib.hid hc;replace hTa:=Lib.hid hTa;replace hv1:=Lib.hid hv1;go_wp2_with fail;refine hc.out.mono ?_;rintro e w3 ⟨T2,rfl,g3⟩;clear hc x0 x1 x2 x3;obtain ⟨p2,hp2⟩:∃ p2,p2 = w3.heap.size:=⟨_,rfl⟩
 obtain ⟨w4,hw4⟩:∃ w4,w4 = (w3.alloc (.cells T2.row 27)).alloc (.cells #[.int .i64 4,.int .i64 0] 34):=⟨_,rfl⟩
 have gw4:Gr w3 w4:=by rw [hw4];exact ((Gr.refl _).alloc _).alloc _
 have hXw4:Blk w4 p2 T2.row 27:=by rw [hw4,hp2];exact (Blk.new _ _ _).alloc _
 have hYw4:Blk w4 (p2 + 1) #[.int .i64 4,.int .i64 0] 34:=by
  rw [hw4,hp2];have:=Blk.new (w3.alloc (.cells T2.row 27)) #[.int .i64 4,.int .i64 0] 34;rw [World.size_alloc] at this;exact this
 have gWw4:Gr w w4:=(gWw2.trans g3).trans gw4;replace hw4:=Lib.hid hw4;replace hp2:=Lib.hid hp2;go_upto_region 3 with fail
 rw [← hp2.out,← hw4.out];have gq4:=g3.trans gw4;have hX4:=hXw2.out.gr gq4;have hY4:=hYw2.out.gr gq4;have hTb:=(hTa.out.gr gq4)
 have x0:=hX4.cell (i:=0) (v:=.slice T1.an T1.N.length T1.cn) rfl;have x1:=hX4.cell (i:=1) (v:=.slice T1.ag T1.G.length T1.cg) rfl;have x2:=hX4.cell (i:=2) (v:=.int .i64 T1.last) rfl;have x3:=hX4.cell (i:=3) (v:=.int .i64 T1.now) rfl;have hc:=h3.out w4 T1 gWw4 hv1.out hTb;replace hc:=Lib.hid hc;replace hTb:=Lib.hid hTb;replace hX4:=Lib.hid hX4;replace hY4:=Lib.hid hY4;replace hXw4:=Lib.hid hXw4;replace hYw4:=Lib.hid hYw4;go_wp2_with fail;refine hc.out.mono ?_;rintro e w5 ⟨T3,rfl,hv3,hT3,g5⟩;replace hT3:=hT3.at;clear hc x0 x1 x2 x3;obtain ⟨p3,hp3⟩:∃ p3,p3 = w5.heap.size:=⟨_,rfl⟩
 obtain ⟨w6,hw6⟩:∃ w6,w6 = (w5.alloc (.cells T3.row 27)).alloc (.cells #[.int .i64 0,.int .i64 1] 34):=⟨_,rfl⟩
 have gw6:Gr w5 w6:=by rw [hw6];exact ((Gr.refl _).alloc _).alloc _
 have hXw6:Blk w6 p3 T3.row 27:=by rw [hw6,hp3];exact (Blk.new _ _ _).alloc _
 have hYw6:Blk w6 (p3 + 1) #[.int .i64 0,.int .i64 1] 34:=by
  rw [hw6,hp3];have:=Blk.new (w5.alloc (.cells T3.row 27)) #[.int .i64 0,.int .i64 1] 34;rw [World.size_alloc] at this;exact this
 have gWw6:Gr w w6:=(gWw4.trans g5).trans gw6;replace hw6:=Lib.hid hw6;replace hp3:=Lib.hid hp3;go_upto_region 4 with fail
 rw [← hp3.out,← hw6.out];have gq6:=g5.trans gw6;have hY6:=hY4.out.gr gq6;have hZ6:=hYw4.out.gr gq6;obtain ⟨N3,an3,cn3,G3,ag3,cg3,la3,no3⟩:=T3;injection hv3 with v1 v2 v3 v4
 dsimp only at v1 v2 v3 v4;subst v2 v3 v4;obtain ⟨gb,off,rfl,hgb,_,d0,d1,d2,d3,d4⟩:=gh_get (hT3.gr gw6).any.g (i:=0) (x:=⟨0,⟨1,2,10⟩,7⟩) rfl;simp only [Nat.zero_mul,Nat.add_zero] at d0 d1 d2 d3 d4;have x0:=hXw6.cell (i:=0) (v:=.slice an3 N3.length cn3) rfl;have x1:=hXw6.cell (i:=1) (v:=.slice (some ⟨gb,off,none⟩) 1 cg3) rfl;have x2:=hXw6.cell (i:=2) (v:=.int .i64 1) rfl;have x3:=hXw6.cell (i:=3) (v:=.int .i64 5) rfl;have y0:=hYw6.cell (i:=0) (v:=.int .i64 0) rfl;have y1:=hYw6.cell (i:=1) (v:=.int .i64 1) rfl;have z0:=hY6.cell (i:=0) (v:=.int .i64 0) rfl;have z1:=hY6.cell (i:=1) (v:=.int .i64 1) rfl;have u0:=hZ6.cell (i:=0) (v:=.int .i64 4) rfl;have u1:=hZ6.cell (i:=1) (v:=.int .i64 0) rfl;go_wp2_with fail;go_ret;exact ⟨rfl,gWw6⟩
end Go.Proofs.YtdfelohjdkcpkaaGreatDoor
namespace Go.Proofs.YtdfelohjdkcpkaaGreatDoor
open Go.RowKit
theorem or_get {K:Nat→Prop} {w:World} {a:Option Addr} {L:List OrM} (h:RecsIn K 8 OrM.cells w a L) {i:Nat} {x:OrM} (hx:L[i]? = some x) :
 ∃ b off,a = some ⟨b,off,none⟩∧b < w.heap.size∧w.cell? ⟨b,off + i * 8,none⟩ = some (.int .i64 x.e.kd)∧w.cell? ⟨b,off + i * 8 + 1,none⟩ = some (.int .i64 x.e.id)∧w.cell? ⟨b,off + i * 8 + 2,none⟩ = some (.int .i64 x.e.srv.k)∧w.cell? ⟨b,off + i * 8 + 3,none⟩ = some (.int .i64 x.e.srv.q)∧w.cell? ⟨b,off + i * 8 + 4,none⟩ = some (.int .i64 x.e.srv.t)∧w.cell? ⟨b,off + i * 8 + 5,none⟩ = some (.int .i64 x.e.pol)∧w.cell? ⟨b,off + i * 8 + 6,none⟩ = some (.slice x.a x.e.tasks.length x.c)∧w.cell? ⟨b,off + i * 8 + 7,none⟩ = some (.int .i64 x.e.at_):=by
 obtain ⟨b,off,ha,hb,hc⟩:=h.1 i x hx;exact ⟨b,off,ha,hb,hc 0 _ rfl,hc 1 _ rfl,hc 2 _ rfl,hc 3 _ rfl,hc 4 _ rfl,hc 5 _ rfl,hc 6 _ rfl,hc 7 _ rfl⟩
structure OrsAt (w:World) (a:Option Addr) (L:List OrM):Prop where
 r:RecsIn Any 8 OrM.cells w a L
 i:∀ x ∈ L,OrI x.e
 k:∀ x ∈ L,x.ok w
theorem OrM.ok.gr {w w':World} {x:OrM} (h:x.ok w) (g:Gr w w'):x.ok w':=⟨h.1.grx (T:=[]) (g.x []) (fun _ h => by cases h),h.2⟩
end Go.Proofs.YtdfelohjdkcpkaaGreatDoor
namespace Go.Proofs.YtdfelohjdkcpkaaGreatDoor
open Go.RowKit
theorem of12_any (n:Int) (w:World) (h0:0≤n) (h1:n≤9223372036854775807):Calls Tryz.prog 182 #[.int .i64 n] w (BigP n 4 4 w):=by
 have ew:IntKind.u64.wrap n = n:=by rw [IntKind.wrap_u64];omega
 have hb:=fun w' => bof_any n w' h0 (by omega)
 replace hb:=Lib.hid hb;go_enter Tryz.func182,Tryz.ntmps182;go_wp2_with fail;refine (hb.out _).mono ?_;rintro e w1 ⟨rfl,hr,g⟩;replace hr:=Lib.hid hr;go_wp2_with fail;go_ret;exact ⟨digs4 n,_,4,rfl,digs4_val n,digs4_dig h0 (by omega),Nat.le_refl _,Nat.le_refl _,hr.out,fun h => (by cases h),⟨Nat.le_refl _,by unfold maxLen;decide⟩,g⟩
theorem at10_all (s:Srv) (i:Int) (w:World) (hp:parOk s = true) (i0:0≤i) (i1:i≤1099511627776) :
 Calls Tryz.prog 101 #[.agg #[.int .i64 s.k,.int .i64 s.q,.int .i64 s.t],.int .i64 i] w fun e w' => e = .returned (.bool (atI (rowI s) i))∧Gr w w':=by
 cases hw:whole s with
 | false => exact at10_any s i w hp hw i0 i1
 | true =>
  have hk:(s.k == 0) = true:=by simpa using (whole_k hp).2 hw
  have ha:atI (rowI s) i = true:=by
   rw [whole_row hw];unfold atI;dsimp only;rw [decide_eq_true i0,decide_eq_true (by omega)];rfl
  rw [ha];replace hw:=Lib.hid hw;replace hp:=Lib.hid hp;replace ha:=Lib.hid ha;go_enter Tryz.func101,Tryz.ntmps101;go_wp2_with fail;go_ret;exact ⟨rfl,(by repeat (first | exact Gr.refl _ | apply Gr.alloc | apply Gr.drew | apply Gr.drewN | (refine Gr.setCell ?_ (by first | (simp;done) | (simp;omega)) _) | (refine Gr.trans ?_ (by assumption))))⟩
set_option maxRecDepth 100000 in
set_option maxHeartbeats 1600000 in
theorem slope12_any (s:Srv) (w:World) (hp:parOk s = true) :
 Calls Tryz.prog 178 #[.agg #[.int .i64 s.k,.int .i64 s.q,.int .i64 s.t]] w fun e w' => e = .returned (.tuple #[.int .i64 (rowI s).q,.int .i64 (rowI s).t,.int .i64 (silI (rowI s))])∧Gr w w':=by
 cases hw:whole s with
 | true =>
  have hk:(s.k == 0) = true:=by simpa using (whole_k hp).2 hw
  rw [whole_row hw];replace hw:=Lib.hid hw;replace hp:=Lib.hid hp;go_enter Tryz.func178,Tryz.ntmps178;go_wp2_with fail;refine bodyPost_ret (v:=.tuple #[.int .i64 1,.int .i64 1,.int .i64 0]) (by simp [results,Tryz.results178,go_sem]) rfl ⟨rfl,?_⟩;repeat (first | exact Gr.refl _ | apply Gr.alloc | apply Gr.drew | apply Gr.drewN | (refine Gr.setCell ?_ (by simp) _) | (refine Gr.trans ?_ (by assumption)))
 | false =>
  have hs:Leg s:=by
   unfold parOk at hp;rw [hw,Bool.false_or] at hp;exact (Srv.leg_iff _).1 hp
  have hgap:=fun w => gap10_any s w hs (leg_gap hw)
  obtain ⟨e1,e2,_⟩:=leg_row hw;obtain ⟨g0,g1,q1,qt,t2⟩:=rowI_ok hp;obtain ⟨h1,h2,h3,h4,h5⟩:=hs;have hk0:(s.k == 0) = false:=by simpa using (by omega:¬ s.k = 0)
  unfold silI;rw [e1,e2] at *;generalize (rowI s).gap = gp at *;have w1:IntKind.i64.wrap (gp + s.t) = gp + s.t:=by rw [IntKind.wrap_i64];omega
  have w2:IntKind.i64.wrap (gp + s.t - s.q) = gp + s.t - s.q:=by rw [IntKind.wrap_i64];omega
  replace hgap:=Lib.hid hgap;replace hp:=Lib.hid hp;replace hw:=Lib.hid hw;replace e1:=Lib.hid e1;replace e2:=Lib.hid e2;obtain ⟨W,hW⟩:∃ W,W = w.alloc (.cells #[.int .i64 s.k,.int .i64 s.q,.int .i64 s.t] 29):=⟨_,rfl⟩
  have gW:Gr w W:=by rw [hW];exact (Gr.refl w).alloc _
  have hB:Blk W w.heap.size #[.int .i64 s.k,.int .i64 s.q,.int .i64 s.t] 29:=by rw [hW];exact Blk.new w _ _
  have b0:=hB.cell (i:=0) (v:=.int .i64 s.k) rfl;have b1:=hB.cell (i:=1) (v:=.int .i64 s.q) rfl;have b2:=hB.cell (i:=2) (v:=.int .i64 s.t) rfl;replace hW:=Lib.hid hW;replace hB:=Lib.hid hB;go_enter Tryz.func178,Tryz.ntmps178;go_upto_region 1 with fail
  rw [← hW.out];go_upto_region 3 with fail
  go_region_held3 (fun w' => w'.cell? ⟨w.heap.size,0,none⟩ = some (.int .i64 s.k)∧w'.cell? ⟨w.heap.size,1,none⟩ = some (.int .i64 s.q)∧w'.cell? ⟨w.heap.size,2,none⟩ = some (.int .i64 s.t)) (simp (maxDischargeDepth:=8) [go_sem, *])
   (first
    | (go_at_call 173;(with_reducible refine (hgap.out _).mono ?_);rintro e wx ⟨rfl,gx⟩;have gq:Gr W wx:=((Gr.refl W).drew).trans gx;have hBx:=hB.out.gr gq;have x0:=hBx.cell (i:=0) (v:=.int .i64 s.k) rfl;have x1:=hBx.cell (i:=1) (v:=.int .i64 s.q) rfl;have x2:=hBx.cell (i:=2) (v:=.int .i64 s.t) rfl;replace hBx:=Lib.hid hBx)
    | fail)
  go_wp2_with fail;refine bodyPost_ret (v:=.tuple #[.int .i64 s.q,.int .i64 s.t,.int .i64 (gp + s.t - s.q)]) (by simp [results,Tryz.results178,go_sem]) rfl ⟨rfl,gW.trans gq⟩
end Go.Proofs.YtdfelohjdkcpkaaGreatDoor
namespace Go.Proofs.YtdfelohjdkcpkaaGreatDoor
open Go.RowKit
theorem lineB_iff {s:Srv} {p:Int × Int} {more:Int} (hp:parOk s = true):lineB s p more = (decide (p.1 * (rowI s).t < p.2 * (rowI s).q) && decide ((p.1 * 4096 + p.2 * more) * (rowI s).t≤p.2 * ((rowI s).q * (4096 - silI (rowI s))))):=by
 unfold lineB;congr 1
 ·rw [decide_eq_decide];cases hw:whole s with
  | true =>
   rw [wiC_whole p hp hw,whole_row hw,cmpI_neg_iff];dsimp only;omega
  | false =>
   rw [wiC_leg p hp hw];obtain ⟨e1,e2,_⟩:=leg_row hw;rw [e1,e2,cmpI_neg_iff]
 ·rw [decide_eq_decide,cmpI_le_iff]
set_option maxRecDepth 100000 in
set_option maxHeartbeats 6400000 in
theorem line12_any (s:Srv) (p:Int × Int) (more:Int) (w:World) (hp:parOk s = true) (hsh:Shr p) (m0:0≤more) (m1:more≤4096) :
 Calls Tryz.prog 106 #[.agg #[.int .i64 s.k,.int .i64 s.q,.int .i64 s.t],.agg #[.int .u64 (hiW p.1),.int .u64 (loW p.1),.int .u64 (hiW p.2),.int .u64 (loW p.2)],.int .i64 more] w fun e w' => e = .returned (.bool (lineB s p more))∧Gr w w':=by
 have hsl:=fun w' => slope12_any s w' hp
 obtain ⟨g0,g1,q1,qt,t2⟩:=rowI_ok hp;rw [lineB_iff hp];have hd0:0≤silI (rowI s)∧silI (rowI s)≤510:=by unfold silI;omega
 generalize hq:(rowI s).q = q at *;generalize ht:(rowI s).t = t at *;generalize hdd:silI (rowI s) = dd at *;obtain ⟨dd0,dd1⟩:=hd0;have hn1:Wide p.1:=⟨hsh.1,by have:=hsh.2.1;omega⟩
 have hn2:Wide p.2:=⟨by have:=hsh.2.2.1;omega,by have:=hsh.2.2.2;omega⟩
 have qb:0≤q * (4096 - dd)∧q * (4096 - dd)≤256 * 4096:=mul_bd (by omega) (by omega) (by omega) (by omega);have w1:IntKind.i64.wrap (4096 - dd) = 4096 - dd:=by rw [IntKind.wrap_i64];omega
 have w2:IntKind.i64.wrap (q * (4096 - dd)) = q * (4096 - dd):=by rw [IntKind.wrap_i64];omega
 have tl:¬ 4096 - dd < 0:=by omega
 have tlb:decide (4096 - dd < 0) = false:=decide_eq_false tl;obtain ⟨b1,hb1⟩:∃ x,x = decide (p.1 * t < p.2 * q):=⟨_,rfl⟩
 obtain ⟨b2,hb2⟩:∃ x,x = decide (p.2 * (q * (4096 - dd)) < (p.1 * 4096 + p.2 * more) * t):=⟨_,rfl⟩
 have hb3:decide ((p.1 * 4096 + p.2 * more) * t≤p.2 * (q * (4096 - dd))) = !b2:=by
  rw [hb2];by_cases hx:p.2 * (q * (4096 - dd)) < (p.1 * 4096 + p.2 * more) * t
  ·rw [decide_eq_true hx,decide_eq_false (by omega)];rfl
  ·rw [decide_eq_false hx,decide_eq_true (by omega)];rfl
 rw [← hb1,hb3];replace hb1:=Lib.hid hb1;replace hb2:=Lib.hid hb2;replace hb3:=Lib.hid hb3;obtain ⟨W,hW⟩:∃ W,W = (w.alloc (.cells #[.int .i64 s.k,.int .i64 s.q,.int .i64 s.t] 29)).alloc (.cells #[.int .u64 (hiW p.1),.int .u64 (loW p.1),.int .u64 (hiW p.2),.int .u64 (loW p.2)] 195):=⟨_,rfl⟩
 have gW:Gr w W:=by rw [hW];exact ((Gr.refl w).alloc _).alloc _
 have hB:Blk W w.heap.size #[.int .i64 s.k,.int .i64 s.q,.int .i64 s.t] 29:=by rw [hW];exact (Blk.new w _ _).alloc _
 have hP:Blk W (w.heap.size + 1) #[.int .u64 (hiW p.1),.int .u64 (loW p.1),.int .u64 (hiW p.2),.int .u64 (loW p.2)] 195:=by
  rw [hW];have:=Blk.new (w.alloc (.cells #[.int .i64 s.k,.int .i64 s.q,.int .i64 s.t] 29)) #[.int .u64 (hiW p.1),.int .u64 (loW p.1),.int .u64 (hiW p.2),.int .u64 (loW p.2)] 195;rw [World.size_alloc] at this;exact this
 have b0:=hB.cell (i:=0) (v:=.int .i64 s.k) rfl;have b1:=hB.cell (i:=1) (v:=.int .i64 s.q) rfl;have b2:=hB.cell (i:=2) (v:=.int .i64 s.t) rfl;replace hW:=Lib.hid hW;replace hB:=Lib.hid hB;replace hP:=Lib.hid hP;replace hsl:=Lib.hid hsl;replace hp:=Lib.hid hp;replace hq:=Lib.hid hq;replace ht:=Lib.hid ht;replace hdd:=Lib.hid hdd;replace hsh:=Lib.hid hsh;replace hn1:=Lib.hid hn1;replace hn2:=Lib.hid hn2;go_enter Tryz.func106,Tryz.ntmps106;go_upto_region 1 with fail
 rw [← hW.out];go_wp2_with fail;refine (hsl.out W).mono ?_;rintro e w0 ⟨rfl,gs⟩;clear b0 b1 b2;have hP0:=hP.out.gr gs;have p0:=hP0.cell (i:=0) (v:=.int .u64 (hiW p.1)) rfl;have p1:=hP0.cell (i:=1) (v:=.int .u64 (loW p.1)) rfl;have p2:=hP0.cell (i:=2) (v:=.int .u64 (hiW p.2)) rfl;have p3:=hP0.cell (i:=3) (v:=.int .u64 (loW p.2)) rfl;replace hP0:=Lib.hid hP0;go_upto_region 2 with fail
 go_region_held3 (fun w' => w'.cell? ⟨w.heap.size + 1,0,none⟩ = some (.int .u64 (hiW p.1))∧w'.cell? ⟨w.heap.size + 1,1,none⟩ = some (.int .u64 (loW p.1))∧w'.cell? ⟨w.heap.size + 1,2,none⟩ = some (.int .u64 (hiW p.2))∧w'.cell? ⟨w.heap.size + 1,3,none⟩ = some (.int .u64 (loW p.2))) (simp (maxDischargeDepth:=8) [go_sem, *])
  (first
   | (go_at_call 179;(with_reducible refine (rof_any p.1 _ hn1.out).mono ?_);rintro e wa ⟨dn,an,cn,rfl,vn,iN,ln,mn,rn,-,-,gn⟩;have gan:Gr w0 wa:=((Gr.refl w0).drew).trans gn;have hPa:=hP0.out.gr gan;have q0:=hPa.cell (i:=0) (v:=.int .u64 (hiW p.1)) rfl;have q1:=hPa.cell (i:=1) (v:=.int .u64 (loW p.1)) rfl;have q2:=hPa.cell (i:=2) (v:=.int .u64 (hiW p.2)) rfl;have q3:=hPa.cell (i:=3) (v:=.int .u64 (loW p.2)) rfl;replace hPa:=Lib.hid hPa;replace vn:=Lib.hid vn;replace iN:=Lib.hid iN;replace rn:=Lib.hid rn)
   | (go_at_call 179;(with_reducible refine (rof_any p.2 _ hn2.out).mono ?_);rintro e wb ⟨dm,am,cm,rfl,vm,im,lm,mm,rm,-,-,gm⟩;have hPb:=hPa.out.gr gm;have o0:=hPb.cell (i:=0) (v:=.int .u64 (hiW p.1)) rfl;have o1:=hPb.cell (i:=1) (v:=.int .u64 (loW p.1)) rfl;have o2:=hPb.cell (i:=2) (v:=.int .u64 (hiW p.2)) rfl;have o3:=hPb.cell (i:=3) (v:=.int .u64 (loW p.2)) rfl;replace hPb:=Lib.hid hPb;have rn2:=rn.out.gr gm;clear rn;have rn:=rn2;clear rn2;replace rn:=Lib.hid rn;replace vm:=Lib.hid vm;replace im:=Lib.hid im;replace rm:=Lib.hid rm)
   | fail)
 clear p0 p1 p2 p3 q0 q1 q2 q3 o0 o1 o2 o3;have gAb:=((gW.trans gs).trans gan).trans gm;go_wp2_with fail;refine (of12_any (t) wb (by omega) (by omega)).mono ?_;rintro e w1 ⟨d1,a1,c1,rfl,v1,i1,l1,m1,r1,-,-,g1⟩;replace v1:=Lib.hid v1;replace i1:=Lib.hid i1;replace r1:=Lib.hid r1;go_wp2_with fail;refine (btimes_any an a1 dn d1 cn c1 w1 (rn.out.gr g1) r1.out iN.out i1.out (by omega) (by omega) (by omega)).mono ?_;rintro e w2 ⟨d2,a2,c2,rfl,v2,i2,l2,m2,r2,-,-,g2⟩;replace v2:=Lib.hid v2;replace i2:=Lib.hid i2;replace r2:=Lib.hid r2;go_wp2_with fail;refine (of12_any (q) w2 (by omega) (by omega)).mono ?_;rintro e w3 ⟨d3,a3,c3,rfl,v3,i3,l3,m3,r3,-,-,g3⟩;replace v3:=Lib.hid v3;replace i3:=Lib.hid i3;replace r3:=Lib.hid r3;go_wp2_with fail;refine (btimes_any am a3 dm d3 cm c3 w3 (rm.out.gr ((g1.trans g2).trans g3)) r3.out im.out i3.out (by omega) (by omega) (by omega)).mono ?_;rintro e w4 ⟨d4,a4,c4,rfl,v4,i4,l4,m4,r4,-,-,g4⟩;replace v4:=Lib.hid v4;replace i4:=Lib.hid i4;replace r4:=Lib.hid r4;have hl1:=bless_any a2 a4 d2 d4 c2 c4 w4 (r2.out.gr (g3.trans g4)) r4.out i2.out i4.out (by omega) (by omega);rw [v2.out,v4.out,vn.out,vm.out,v1.out,v3.out,← hb1.out] at hl1;replace hl1:=Lib.hid hl1;cases hbb:b1 with
 | false =>
  rw [hbb] at hl1;replace hbb:=Lib.hid hbb;go_wp2_with fail;refine hl1.out.mono ?_;rintro e w5 ⟨rfl,hw5⟩;subst hw5;go_wp2_with fail;go_ret;exact ⟨by rw [hbb.out,Bool.false_and];rfl,gAb.trans (((g1.trans g2).trans g3).trans g4)⟩
 | true =>
  rw [hbb] at hl1;replace hbb:=Lib.hid hbb;go_wp2_with fail;refine hl1.out.mono ?_;rintro e w5 ⟨rfl,hw5⟩;subst hw5;go_wp2_with fail;refine (of12_any (4096) w4 (by omega) (by omega)).mono ?_;rintro e w6 ⟨d6,a6,c6,rfl,v6,i6,l6,m6,r6,-,-,g6⟩;replace v6:=Lib.hid v6;replace i6:=Lib.hid i6;replace r6:=Lib.hid r6;go_wp2_with fail;refine (btimes_any an a6 dn d6 cn c6 w6 (rn.out.gr ((((g1.trans g2).trans g3).trans g4).trans g6)) r6.out iN.out i6.out (by omega) (by omega) (by omega)).mono ?_;rintro e w7 ⟨d7,a7,c7,rfl,v7,i7,l7,m7,r7,-,-,g7⟩;replace v7:=Lib.hid v7;replace i7:=Lib.hid i7;replace r7:=Lib.hid r7;go_wp2_with fail;refine (of12_any (more) w7 (by omega) (by omega)).mono ?_;rintro e w8 ⟨d8,a8,c8,rfl,v8,i8,l8,m8,r8,-,-,g8⟩;replace v8:=Lib.hid v8;replace i8:=Lib.hid i8;replace r8:=Lib.hid r8;go_wp2_with fail;refine (btimes_any am a8 dm d8 cm c8 w8 (rm.out.gr ((((((g1.trans g2).trans g3).trans g4).trans g6).trans g7).trans g8)) r8.out im.out i8.out (by omega) (by omega) (by omega)).mono ?_;rintro e w9 ⟨d9,a9,c9,rfl,v9,i9,l9,m9,r9,-,-,g9⟩;replace v9:=Lib.hid v9;replace i9:=Lib.hid i9;replace r9:=Lib.hid r9;go_wp2_with fail;refine (bplus_any a7 a9 d7 d9 c7 c9 w9 (r7.out.gr (g8.trans g9)) r9.out i7.out i9.out (by omega) (by omega)).mono ?_;rintro e w10 ⟨d10,a10,c10,rfl,v10,i10,l10,m10,r10,-,-,g10⟩;replace v10:=Lib.hid v10;replace i10:=Lib.hid i10;replace r10:=Lib.hid r10;go_wp2_with fail;refine (of12_any (q * (4096 - dd)) w10 (by omega) (by omega)).mono ?_;rintro e w11 ⟨d11,a11,c11,rfl,v11,i11,l11,m11,r11,-,-,g11⟩;replace v11:=Lib.hid v11;replace i11:=Lib.hid i11;replace r11:=Lib.hid r11;go_wp2_with fail;refine (btimes_any am a11 dm d11 cm c11 w11 (rm.out.gr (((((((((g1.trans g2).trans g3).trans g4).trans g6).trans g7).trans g8).trans g9).trans g10).trans g11)) r11.out im.out i11.out (by omega) (by omega) (by omega)).mono ?_;rintro e w12 ⟨d12,a12,c12,rfl,v12,i12,l12,m12,r12,-,-,g12⟩;replace v12:=Lib.hid v12;replace i12:=Lib.hid i12;replace r12:=Lib.hid r12;go_wp2_with fail;refine (of12_any (t) w12 (by omega) (by omega)).mono ?_;rintro e w13 ⟨d13,a13,c13,rfl,v13,i13,l13,m13,r13,-,-,g13⟩;replace v13:=Lib.hid v13;replace i13:=Lib.hid i13;replace r13:=Lib.hid r13;go_wp2_with fail;refine (btimes_any a10 a13 d10 d13 c10 c13 w13 (r10.out.gr ((g11.trans g12).trans g13)) r13.out i10.out i13.out (by omega) (by omega) (by omega)).mono ?_;rintro e w14 ⟨d14,a14,c14,rfl,v14,i14,l14,m14,r14,-,-,g14⟩;replace v14:=Lib.hid v14;replace i14:=Lib.hid i14;replace r14:=Lib.hid r14;have hl2:=bless_any a12 a14 d12 d14 c12 c14 w14 (r12.out.gr (g13.trans g14)) r14.out i12.out i14.out (by omega) (by omega);rw [v12.out,v14.out,vm.out,v11.out,v10.out,v13.out,v7.out,v9.out,vn.out,vm.out,v6.out,v8.out,← hb2.out] at hl2;replace hl2:=Lib.hid hl2;go_wp2_with fail;refine hl2.out.mono ?_;rintro e w15 ⟨rfl,hw15⟩;subst hw15;go_wp2_with fail;go_ret;exact ⟨by rw [hbb.out,Bool.true_and];rfl,gAb.trans ((((((((((((g1.trans g2).trans g3).trans g4).trans g6).trans g7).trans g8).trans g9).trans g10).trans g11).trans g12).trans g13).trans g14)⟩
def RkP (o:Option Nat) (w:World) (e:Ending) (w':World):Prop:=∃ c:Int,e = .returned (.int .i64 c)∧(c = 0 ↔ o = none)∧Gr w w'
theorem kidsErr_run {s:Srv} {l:List Srv} (hp:parOk s = true) (hs:srvErr l = none):kidsErr s l = none ↔ (lineB s (shareS l) (2 * sumQ l) = true∧∀ n:Nat,1≤n→n≤4096→demI l n≤givI (rowI s) n):=by
 constructor
 ·intro h;obtain ⟨_,_,h3,h4⟩:=kids_parts h;exact ⟨h3,fun n _ hn => below_all hp (srvErr_none hs).1 h4 n hn⟩
 ·rintro ⟨h3,h4⟩;unfold kidsErr;rw [if_neg (by rw [hp];decide),hs];dsimp only;rw [if_pos];unfold kidsB;rw [h3,Bool.true_and];unfold belowB;rw [List.all_eq_true];intro x hx;obtain ⟨x1,x2⟩:=stepsL_ok l 4096 x hx;have:=h4 x.toNat (by omega) (by omega);rw [show ((x.toNat:Nat):Int) = x by omega] at this;exact decide_eq_true this
set_option maxRecDepth 100000 in
set_option maxHeartbeats 1600000 in
theorem rkids12_par (s:Srv) (a:Option Addr) (l:List Srv) (c:Nat) (w:World) (hp:parOk s = false) :
 Calls Tryz.prog 100 #[.agg #[.int .i64 s.k,.int .i64 s.q,.int .i64 s.t],.slice a l.length c] w fun e w' => e = .returned (.int .i64 10)∧Gr w w':=by
 obtain ⟨W,hW⟩:∃ W,W = w.alloc (.cells #[.int .i64 s.k,.int .i64 s.q,.int .i64 s.t] 29):=⟨_,rfl⟩
 have gW:Gr w W:=by rw [hW];exact (Gr.refl w).alloc _
 have hB:Blk W (w.heap.size) #[.int .i64 s.k,.int .i64 s.q,.int .i64 s.t] 29:=by
  rw [hW];have:=Blk.new (w) #[.int .i64 s.k,.int .i64 s.q,.int .i64 s.t] 29;exact this
 have hWz:W.heap.size = w.heap.size + 1:=by rw [hW];simp
 have b0:=hB.cell (i:=0) (v:=.int .i64 s.k) rfl;have b1:=hB.cell (i:=1) (v:=.int .i64 s.q) rfl;have b2:=hB.cell (i:=2) (v:=.int .i64 s.t) rfl;have hlg:=fun w' => rlegal10_any s w'
 rw [hp] at hlg;replace hW:=Lib.hid hW;replace hB:=Lib.hid hB;replace hlg:=Lib.hid hlg;replace hp:=Lib.hid hp;go_enter Tryz.func100,Tryz.ntmps100;go_upto_region 1 with fail
 rw [← hW.out];go_wp2_with fail;refine (hlg.out W).mono ?_;rintro e w1 ⟨rfl,g1⟩;clear b0 b1 b2;go_wp2_with fail;go_ret;exact ⟨rfl,gW.trans g1⟩
set_option maxRecDepth 100000 in
set_option maxHeartbeats 1600000 in
theorem rkids12_srv (s:Srv) (a:Option Addr) (l:List Srv) (c:Nat) (w:World) (hp:parOk s = true) (k:Int) (hk:k ≠ 0) (hsv:∀ w',Gr w w'→Calls Tryz.prog 171 #[.slice a l.length c] w' fun e w'' => e = .returned (.tuple #[partZ,.int .i64 k])∧Gr w' w'') :
 Calls Tryz.prog 100 #[.agg #[.int .i64 s.k,.int .i64 s.q,.int .i64 s.t],.slice a l.length c] w fun e w' => e = .returned (.int .i64 k)∧Gr w w':=by
 obtain ⟨W,hW⟩:∃ W,W = w.alloc (.cells #[.int .i64 s.k,.int .i64 s.q,.int .i64 s.t] 29):=⟨_,rfl⟩
 have gW:Gr w W:=by rw [hW];exact (Gr.refl w).alloc _
 have hB:Blk W (w.heap.size) #[.int .i64 s.k,.int .i64 s.q,.int .i64 s.t] 29:=by
  rw [hW];have:=Blk.new (w) #[.int .i64 s.k,.int .i64 s.q,.int .i64 s.t] 29;exact this
 have hWz:W.heap.size = w.heap.size + 1:=by rw [hW];simp
 have b0:=hB.cell (i:=0) (v:=.int .i64 s.k) rfl;have b1:=hB.cell (i:=1) (v:=.int .i64 s.q) rfl;have b2:=hB.cell (i:=2) (v:=.int .i64 s.t) rfl;have hlg:=fun w' => rlegal10_any s w'
 rw [hp] at hlg;have tk:(k == 0) = false:=by simpa using hk
 replace hW:=Lib.hid hW;replace hB:=Lib.hid hB;replace hlg:=Lib.hid hlg;replace hp:=Lib.hid hp;replace hsv:=Lib.hid hsv;replace hk:=Lib.hid hk;go_enter Tryz.func100,Tryz.ntmps100;go_upto_region 1 with fail
 rw [← hW.out];go_wp2_with fail;refine (hlg.out W).mono ?_;rintro e w1 ⟨rfl,g1⟩;clear b0 b1 b2;go_wp2_with fail;refine (hsv.out w1 (gW.trans g1)).mono ?_;rintro e w2 ⟨rfl,g2⟩;go_wp2_with fail;go_ret;exact ⟨rfl,((gW.trans g1).trans g2).alloc _⟩
set_option maxRecDepth 100000 in
set_option maxHeartbeats 6400000 in
theorem rkids12_run (s:Srv) (a:Option Addr) (l:List Srv) (c:Nat) (w:World) (hl:SrvsAt w a l) (hp:parOk s = true) (hse:srvErr l = none) :
 Calls Tryz.prog 100 #[.agg #[.int .i64 s.k,.int .i64 s.q,.int .i64 s.t],.slice a l.length c] w (RkP (kidsErr s l) w):=by
 have hrun:=kidsErr_run hp hse;obtain ⟨K,hK⟩:∃ K,K = kidsErr s l:=⟨_,rfl⟩
 rw [← hK] at hrun ⊢;obtain ⟨hal,h8⟩:=srvErr_none hse;have hrow:=rowI_ok hp;have hg0:givI (rowI s) 0 = 0:=by
  have h1:=giv_nonneg hrow 0;have h2:=giv_le hrow (l:=0) (Int.le_refl _);omega
 replace hg0:=Lib.hid hg0;have hsh:=shr_share hal h8;have hqb:=sumQ_bd hal h8;obtain ⟨W,hW⟩:∃ W,W = w.alloc (.cells #[.int .i64 s.k,.int .i64 s.q,.int .i64 s.t] 29):=⟨_,rfl⟩
 have gW:Gr w W:=by rw [hW];exact (Gr.refl w).alloc _
 have hB:Blk W (w.heap.size) #[.int .i64 s.k,.int .i64 s.q,.int .i64 s.t] 29:=by
  rw [hW];have:=Blk.new (w) #[.int .i64 s.k,.int .i64 s.q,.int .i64 s.t] 29;exact this
 have hWz:W.heap.size = w.heap.size + 1:=by rw [hW];simp
 have b0:=hB.cell (i:=0) (v:=.int .i64 s.k) rfl;have b1:=hB.cell (i:=1) (v:=.int .i64 s.q) rfl;have b2:=hB.cell (i:=2) (v:=.int .i64 s.t) rfl;have hlg:=fun w' => rlegal10_any s w'
 rw [hp] at hlg;replace hW:=Lib.hid hW;replace hB:=Lib.hid hB;replace hlg:=Lib.hid hlg;replace hp:=Lib.hid hp;replace hse:=Lib.hid hse;replace hal:=Lib.hid hal;replace hrow:=Lib.hid hrow;replace hsh:=Lib.hid hsh;replace hqb:=Lib.hid hqb;replace hl:=Lib.hid hl;replace hrun:=Lib.hid hrun;replace hK:=Lib.hid hK;go_enter Tryz.func100,Tryz.ntmps100;go_upto_region 1 with fail
 rw [← hW.out];go_wp2_with fail;refine (hlg.out W).mono ?_;rintro e w1 ⟨rfl,g1⟩;clear b0 b1 b2;have hsv:=rservers_yes a l c w1 (hl.out.gr (gW.trans g1)) hal.out h8;replace hsv:=Lib.hid hsv;go_wp2_with fail;refine hsv.out.mono ?_;rintro e w2 ⟨rfl,g2⟩;obtain ⟨pb,hpb⟩:∃ pb,pb = w2.heap.size:=⟨_,rfl⟩
 obtain ⟨w3,hw3⟩:∃ w3,w3 = w2.alloc (.cells #[.int .u64 (hiW (shareS l).1),.int .u64 (loW (shareS l).1),.int .u64 (hiW (shareS l).2),.int .u64 (loW (shareS l).2)] 195):=⟨_,rfl⟩
 have g3:Gr w2 w3:=by rw [hw3];exact (Gr.refl _).alloc _
 have hP3:Blk w3 pb #[.int .u64 (hiW (shareS l).1),.int .u64 (loW (shareS l).1),.int .u64 (hiW (shareS l).2),.int .u64 (loW (shareS l).2)] 195:=by rw [hw3,hpb];exact Blk.new _ _ _
 have gA3:=((gW.trans g1).trans g2).trans g3;have hB3:=((hB.out.gr g1).gr g2).gr g3;replace hpb:=Lib.hid hpb;replace hw3:=Lib.hid hw3;replace hP3:=Lib.hid hP3;replace hB3:=Lib.hid hB3;go_upto_region 4 with fail
 rw [← hpb.out,← hw3.out];go_wp2_with fail;go_loopw [7,25] (fun sv iv wr => ∃ k:Nat,k≤l.length∧sv = .int .i64 (sumQ (l.take k))∧iv = .int .i64 k∧Gr w3 wr) (fun _ iv _ => l.length - (intOf iv).toNat);case atStart => exact ⟨0,Nat.zero_le _,rfl,rfl,Gr.refl _⟩
 case round =>
  obtain ⟨k,hk,rfl,rfl,hg⟩:=hrel;by_cases hlt:k < l.length
  ·obtain ⟨x,hx⟩:=get_some l k hlt;obtain ⟨ba,off,hag,hba2,d0,d1,d2⟩:=(hl.out.gr (gA3.trans hg)) k x hx;subst hag;have hs1:sumQ (l.take (k + 1)) = sumQ (l.take k) + x.q:=by unfold sumQ;rw [take_snoc hx,sumI_snoc]
   have hq1:=hqb.out k;have hq2:=hqb.out (k + 1);have hww:IntKind.i64.wrap (sumQ (l.take k) + x.q) = sumQ (l.take k) + x.q:=by rw [IntKind.wrap_i64] <;> omega
   replace hx:=Lib.hid hx;replace hs1:=Lib.hid hs1;go_wp2_with fail;go_roundw;case rel => exact ⟨k + 1,by omega,by rw [hs1.out],by go_num,hg.alloc _⟩
   case measure => simp [intOf];omega
  ·have hkl:k = l.length:=by omega
   have ti:¬ (k:Int) < l.length:=by omega
   have tib:decide ((k:Int) < l.length) = false:=decide_eq_false ti;have hsq:sumQ (l.take k) = sumQ l:=by rw [hkl,List.take_length]
   have hq1:=hqb.out l.length;rw [List.take_length] at hq1;have hww:IntKind.i64.wrap (2 * sumQ (l.take k)) = 2 * sumQ (l.take k):=by rw [IntKind.wrap_i64,hsq] <;> omega
   have hlc:=fun w' => line12_any s (shareS l) (2 * sumQ (l.take k)) w' hp.out hsh.out (by rw [hsq];omega) (by rw [hsq];omega)
   have hlq:lineB s (shareS l) (2 * sumQ (l.take k)) = lineB s (shareS l) (2 * sumQ l):=by rw [hsq]
   rw [hlq] at hlc;have hBx:=hB3.out.gr hg;have hPx:=hP3.out.gr hg;have gAx:=gA3.trans hg;have b0:=hBx.cell (i:=0) (v:=.int .i64 s.k) rfl;have b1:=hBx.cell (i:=1) (v:=.int .i64 s.q) rfl;have b2:=hBx.cell (i:=2) (v:=.int .i64 s.t) rfl;have p0:=hPx.cell (i:=0) (v:=.int .u64 (hiW (shareS l).1)) rfl;have p1:=hPx.cell (i:=1) (v:=.int .u64 (loW (shareS l).1)) rfl;have p2:=hPx.cell (i:=2) (v:=.int .u64 (hiW (shareS l).2)) rfl;have p3:=hPx.cell (i:=3) (v:=.int .u64 (loW (shareS l).2)) rfl;cases hlb:lineB s (shareS l) (2 * sumQ l) with
   | false =>
    rw [hlb] at hlc;replace hlc:=Lib.hid hlc;replace hBx:=Lib.hid hBx;replace hPx:=Lib.hid hPx;replace hkl:=Lib.hid hkl;replace hsq:=Lib.hid hsq;replace hlb:=Lib.hid hlb;replace hlq:=Lib.hid hlq;go_wp2_with fail;refine (hlc.out wr).mono ?_;rintro e w4 ⟨rfl,g4⟩;clear b0 b1 b2 p0 p1 p2 p3;have gA4:=gAx.trans g4;go_wp2_with fail;go_ret;exact ⟨12,rfl,⟨fun h => (by cases h),fun h => by have:=(hrun.out.1 h).1;rw [hlb.out] at this;cases this⟩,gA4⟩
   | true =>
    rw [hlb] at hlc;replace hlc:=Lib.hid hlc;replace hBx:=Lib.hid hBx;replace hPx:=Lib.hid hPx;replace hkl:=Lib.hid hkl;replace hsq:=Lib.hid hsq;replace hlb:=Lib.hid hlb;replace hlq:=Lib.hid hlq;go_wp2_with fail;refine (hlc.out wr).mono ?_;rintro e w4 ⟨rfl,g4⟩;clear b0 b1 b2 p0 p1 p2 p3;have gA4:=gAx.trans g4;have hB4:=hBx.out.gr g4;replace hB4:=Lib.hid hB4;go_wp2_with fail;go_loopw [10,11] (fun sv iv wr => ∃ n:Nat,1≤n∧n≤4097∧sv = .int .i64 (givI (rowI s) ((n:Int) - 1))∧iv = .int .i64 n∧(∀ j:Nat,1≤j→j < n→demI l j≤givI (rowI s) j)∧Gr w4 wr) (fun _ iv _ => 4097 - (intOf iv).toNat);case atStart => exact ⟨1,by omega,by omega,by rw [show ((1:Nat):Int) - 1 = 0 by omega,hg0.out],rfl,(fun j h1 h2 => by omega),Gr.refl _⟩
    case round =>
     obtain ⟨n,n1,n2,rfl,rfl,hall,hg5⟩:=hrel;replace hall:=Lib.hid hall;obtain ⟨wo,rfl⟩:∃ wo:World,wo = wr:=⟨wr,rfl⟩
     by_cases hn:n≤4096
     ·have tn:(n:Int)≤4096:=by omega
      have tnb:decide ((n:Int)≤4096) = true:=decide_eq_true tn;have hwn:IntKind.i64.wrap ((n:Int) - 1) = (n:Int) - 1:=by rw [IntKind.wrap_i64] <;> omega
      have hst:=giv_step hrow.out (i:=(n:Int) - 1);rw [show (n:Int) - 1 + 1 = n by omega] at hst;have hgb:=giv_nonneg hrow.out ((n:Int) - 1);have hgu:=giv_le hrow.out (l:=(n:Int) - 1) (by omega);have hat:=at10_all s ((n:Int) - 1) wo hp.out (by omega) (by omega);have hB5:=hB4.out.gr hg5;have b0:=hB5.cell (i:=0) (v:=.int .i64 s.k) rfl;have b1:=hB5.cell (i:=1) (v:=.int .i64 s.q) rfl;have b2:=hB5.cell (i:=2) (v:=.int .i64 s.t) rfl;have gA5:=gA4.trans hg5;replace hB5:=Lib.hid hB5;cases ha:atI (rowI s) ((n:Int) - 1) with
      | true =>
       rw [ha] at hat hst;replace ha:=Lib.hid ha;replace hat:=Lib.hid hat;rw [if_pos rfl] at hst;have hw1:IntKind.i64.wrap (givI (rowI s) ((n:Int) - 1) + 1) = givI (rowI s) n:=by rw [hst,IntKind.wrap_i64] <;> omega
       replace hst:=Lib.hid hst;go_wp2_with fail;refine hat.out.mono ?_;rintro e w5 ⟨rfl,g5⟩;have hsv:=rservers11_any a l c n w5 (hl.out.gr (gA5.trans g5)) hal.out h8 ⟨by omega,by omega⟩;clear b0 b1 b2;by_cases tg:givI (rowI s) n < sumI (fun s => askedI s (n:Int)) l
       ·have tgb:decide (givI (rowI s) n < sumI (fun s => askedI s (n:Int)) l) = true:=decide_eq_true tg;replace hsv:=Lib.hid hsv;go_wp2_with fail;refine hsv.out.mono ?_;rintro e w6 ⟨rfl,g6⟩;go_wp2_with fail;go_ret;exact ⟨12,rfl,⟨fun h => (by cases h),fun h => by have h1:=(hrun.out.1 h).2 n n1 hn;unfold demI at h1;omega⟩,(gA5.trans g5).trans g6⟩
       ·have tgb:decide (givI (rowI s) n < sumI (fun s => askedI s (n:Int)) l) = false:=decide_eq_false tg;have hall2:∀ j:Nat,1≤j→j < n + 1→demI l j≤givI (rowI s) j:=fun j j1 j2 => by
         by_cases hj:j < n
         ·exact hall.out j j1 hj
         ·obtain rfl:j = n:=by omega
          unfold demI;omega
        replace hall2:=Lib.hid hall2;replace hsv:=Lib.hid hsv;go_wp2_with fail;refine hsv.out.mono ?_;rintro e w6 ⟨rfl,g6⟩;go_wp2_with fail;go_roundw;case rel => exact ⟨n + 1,by omega,by omega,by rw [show ((n + 1:Nat):Int) - 1 = n by omega],by go_num,hall2.out,(hg5.trans g5).trans g6⟩
        case measure => simp [intOf];omega
      | false =>
       rw [ha] at hat hst;replace ha:=Lib.hid ha;replace hat:=Lib.hid hat;rw [if_neg (by decide),Int.add_zero] at hst;replace hst:=Lib.hid hst;go_wp2_with fail;refine hat.out.mono ?_;rintro e w5 ⟨rfl,g5⟩;have hsv:=rservers11_any a l c n w5 (hl.out.gr (gA5.trans g5)) hal.out h8 ⟨by omega,by omega⟩;clear b0 b1 b2;by_cases tg:givI (rowI s) ((n:Int) - 1) < sumI (fun s => askedI s (n:Int)) l
       ·have tgb:decide (givI (rowI s) ((n:Int) - 1) < sumI (fun s => askedI s (n:Int)) l) = true:=decide_eq_true tg;replace hsv:=Lib.hid hsv;go_wp2_with fail;refine hsv.out.mono ?_;rintro e w6 ⟨rfl,g6⟩;go_wp2_with fail;go_ret;exact ⟨12,rfl,⟨fun h => (by cases h),fun h => by have h1:=(hrun.out.1 h).2 n n1 hn;unfold demI at h1;rw [hst.out] at h1;omega⟩,(gA5.trans g5).trans g6⟩
       ·have tgb:decide (givI (rowI s) ((n:Int) - 1) < sumI (fun s => askedI s (n:Int)) l) = false:=decide_eq_false tg;have hall2:∀ j:Nat,1≤j→j < n + 1→demI l j≤givI (rowI s) j:=fun j j1 j2 => by
         by_cases hj:j < n
         ·exact hall.out j j1 hj
         ·obtain rfl:j = n:=by omega
          unfold demI;rw [hst.out];omega
        replace hall2:=Lib.hid hall2;replace hsv:=Lib.hid hsv;go_wp2_with fail;refine hsv.out.mono ?_;rintro e w6 ⟨rfl,g6⟩;go_wp2_with fail;go_roundw;case rel => exact ⟨n + 1,by omega,by omega,by rw [show ((n + 1:Nat):Int) - 1 = n by omega];rw [hst.out],by go_num,hall2.out,(hg5.trans g5).trans g6⟩
        case measure => simp [intOf];omega
     ·have tn:¬ (n:Int)≤4096:=by omega
      have tnb:decide ((n:Int)≤4096) = false:=decide_eq_false tn;go_wp2_with fail;go_ret;exact ⟨0,rfl,⟨fun _ => hrun.out.2 ⟨hlb.out,fun j j1 j2 => hall.out j j1 (by omega)⟩,fun _ => rfl⟩,gA4.trans hg5⟩
theorem rkids12_any (s:Srv) (a:Option Addr) (l:List Srv) (c:Nat) (w:World) (hl:SrvsAt w a l) (hm:l.length≤maxLen) :
 Calls Tryz.prog 100 #[.agg #[.int .i64 s.k,.int .i64 s.q,.int .i64 s.t],.slice a l.length c] w (RkP (kidsErr s l) w):=by
 cases hp:parOk s with
 | false =>
  have hk:kidsErr s l = some 9:=by unfold kidsErr;rw [if_pos hp]
  rw [hk];exact (rkids12_par s a l c w hp).mono fun _ _ ⟨h1,h2⟩ => ⟨10,h1,⟨fun h => (by cases h),fun h => (by cases h)⟩,h2⟩
 | true =>
  cases hs:srvErr l with
  | none => exact rkids12_run s a l c w hl hp hs
  | some g =>
   have hk:kidsErr s l = some g:=by unfold kidsErr;rw [if_neg (by rw [hp];decide),hs]
   rw [hk];unfold srvErr at hs;split at hs
   ·rename_i h1;exact (rkids12_srv s a l c w hp 10 (by decide) (fun w' gw => rservers_no a l c w' (hl.gr gw) hm h1)).mono fun _ _ ⟨h1,h2⟩ => ⟨10,h1,⟨fun h => (by cases h),fun h => (by cases h)⟩,h2⟩
   ·rename_i h1;split at hs
    ·rename_i h2;exact (rkids12_srv s a l c w hp 7 (by decide) (fun w' gw => rservers_full a l c w' (hl.gr gw) hm (by simpa using h1) h2)).mono fun _ _ ⟨h1,h2⟩ => ⟨7,h1,⟨fun h => (by cases h),fun h => (by cases h)⟩,h2⟩
    ·cases hs
end Go.Proofs.YtdfelohjdkcpkaaGreatDoor
namespace Go.Proofs.YtdfelohjdkcpkaaGreatDoor
open Go.RowKit
def FstN (N:List NdM) (id:Int) (i:Nat) (x:NdM):Prop:=N[i]? = some x∧x.e.id = id∧∀ (j:Nat) (y:NdM),j < i→N[j]? = some y→y.e.id ≠ id
theorem fst_cases (N:List NdM) (id:Int):(∃ i x,FstN N id i x) ∨ ∀ x ∈ N,x.e.id ≠ id:=by
 induction N with
 | nil => right;intro x hx;cases hx
 | cons y r ih =>
  by_cases hy:y.e.id = id
  ·exact .inl ⟨0,y,rfl,hy,fun j _ hj => by omega⟩
  ·rcases ih with ⟨i,x,h1,h2,h3⟩ | h
   ·refine .inl ⟨i + 1,x,h1,h2,fun j z hj hz => ?_⟩;cases j with
    | zero =>
     obtain rfl:y = z:=by simpa using hz
     exact hy
    | succ j => exact h3 j z (by omega) (by simpa using hz)
   ·right;intro x hx;rcases List.mem_cons.1 hx with rfl | hx
    ·exact hy
    ·exact h x hx
theorem fst_find {T:TM} {id:Int} {i:Nat} {x:NdM} (h:FstN T.N id i x):T.v.find id = some x.e:=by
 obtain ⟨h1,h2,h3⟩:=h;unfold TreeV.find;show List.find? _ (T.N.map (·.e)) = _;rw [List.find?_map];have:List.find? ((fun n:Nd => decide (n.id = id)) ∘ fun y:NdM => y.e) T.N = some x:=by
  rw [List.find?_eq_some_iff_getElem];obtain ⟨hi,hx⟩:=List.getElem?_eq_some_iff.1 h1;refine ⟨by simpa using h2,i,hi,hx,fun j hj => ?_⟩;have:=h3 j T.N[j] hj (List.getElem?_eq_getElem _);simpa using this
 rw [this];rfl
set_option maxRecDepth 100000 in
set_option maxHeartbeats 3200000 in
theorem rfind_no (T:TM) (id:Int) (w:World) (h:TreeAt Any w T) (hf:∀ x ∈ T.N,x.e.id ≠ id) :
 Calls Tryz.prog 50 #[.agg T.row,.int .i64 id] w fun e w' => e = .returned (.tuple #[.agg #[.int .i64 0,.int .i64 0,.int .i64 0,.int .i64 0,.int .i64 0,.int .i64 0,.slice none 0 0],.bool false])∧Gr w w':=by
 obtain ⟨W,hW⟩:∃ W,W = (w.alloc (.cells #[.slice T.an T.N.length T.cn,.slice T.ag T.G.length T.cg,.int .i64 T.last,.int .i64 T.now] 27)).alloc (.cells #[.int .i64 0,.int .i64 0,.int .i64 0,.int .i64 0,.int .i64 0,.int .i64 0,.slice none 0 0] 39):=⟨_,rfl⟩
 have gW:Gr w W:=by rw [hW];exact ((Gr.refl w).alloc _).alloc _
 have hO:Blk W (w.heap.size) #[.slice T.an T.N.length T.cn,.slice T.ag T.G.length T.cg,.int .i64 T.last,.int .i64 T.now] 27:=by
  rw [hW];have:=Blk.new (w) #[.slice T.an T.N.length T.cn,.slice T.ag T.G.length T.cg,.int .i64 T.last,.int .i64 T.now] 27;exact (this).alloc _
 have hR:Blk W (w.heap.size + 1) #[.int .i64 0,.int .i64 0,.int .i64 0,.int .i64 0,.int .i64 0,.int .i64 0,.slice none 0 0] 39:=by
  rw [hW];have:=Blk.new ((w).alloc (.cells #[.slice T.an T.N.length T.cn,.slice T.ag T.G.length T.cg,.int .i64 T.last,.int .i64 T.now] 27)) #[.int .i64 0,.int .i64 0,.int .i64 0,.int .i64 0,.int .i64 0,.int .i64 0,.slice none 0 0] 39;rw [World.size_alloc] at this;exact this
 have hWz:W.heap.size = w.heap.size + 2:=by rw [hW];simp
 have hTW:=h.gr gW;have hl1:=h.l1;have o0:=hO.cell (i:=0) (v:=.slice T.an T.N.length T.cn) rfl;have o1:=hO.cell (i:=1) (v:=.slice T.ag T.G.length T.cg) rfl;have o2:=hO.cell (i:=2) (v:=.int .i64 T.last) rfl;have o3:=hO.cell (i:=3) (v:=.int .i64 T.now) rfl;obtain ⟨aN,haN⟩:∃ aN,aN = T.an:=⟨_,rfl⟩
 rw [← haN] at o0;replace haN:=Lib.hid haN;replace hW:=Lib.hid hW;replace hO:=Lib.hid hO;replace hR:=Lib.hid hR;replace h:=Lib.hid h;replace hTW:=Lib.hid hTW;replace hWz:=Lib.hid hWz;replace hf:=Lib.hid hf;go_enter Tryz.func50,Tryz.ntmps50;go_upto_region 1 with fail
 rw [← hW.out];go_wp2_with fail;clear o0 o1 o2 o3;go_loopw [11] (fun iv wr => ∃ k:Nat,k≤T.N.length∧iv = .int .i64 k∧Gr W wr) (fun iv _ => T.N.length - (intOf iv).toNat);case atStart => exact ⟨0,Nat.zero_le _,rfl,Gr.refl _⟩
 case round =>
  obtain ⟨k,hk,rfl,hg⟩:=hrel;by_cases hlt:k < T.N.length
  ·have hkl:k < T.N.length:=by omega
   have tk:(k:Int) < T.N.length:=by omega
   obtain ⟨y,hy⟩:=get_some T.N k hkl;obtain ⟨b,off,hab,hb,-,c0,c1,c2,c3,c4,c5,c6⟩:=(hTW.out.gr hg).n.get hy;rw [← haN.out] at hab;subst hab;have hne:=hf.out y (get_mem hy);have tp:(y.e.id == id) = false:=by simpa using hne
   replace hy:=Lib.hid hy;replace hne:=Lib.hid hne;go_wp2_with fail;go_roundw;case rel => exact ⟨k + 1,by omega,by go_num,hg.trans ((Gr.refl _).alloc _)⟩
   case measure => simp [intOf];omega
  ·have tk:¬ (k:Int) < T.N.length:=by omega
   have hR2:=hR.out.gr hg;have r0:=hR2.cell (i:=0) (v:=.int .i64 0) rfl;have r1:=hR2.cell (i:=1) (v:=.int .i64 0) rfl;have r2:=hR2.cell (i:=2) (v:=.int .i64 0) rfl;have r3:=hR2.cell (i:=3) (v:=.int .i64 0) rfl;have r4:=hR2.cell (i:=4) (v:=.int .i64 0) rfl;have r5:=hR2.cell (i:=5) (v:=.int .i64 0) rfl;have r6:=hR2.cell (i:=6) (v:=.slice none 0 0) rfl;have fr:=fun i => hR2.free i
   have hwz:=hWz.out;have hgz:=hg.size;replace hR2:=Lib.hid hR2;go_wp2_with fail;obtain ⟨w9,hw9⟩:∃ w9,w9 = ((((((wr.setCell ⟨w.heap.size + 1,0,none⟩ (.int .i64 0)).setCell ⟨w.heap.size + 1,1,none⟩ (.int .i64 0)).setCell ⟨w.heap.size + 1,2,none⟩ (.int .i64 0)).setCell ⟨w.heap.size + 1,3,none⟩ (.int .i64 0)).setCell ⟨w.heap.size + 1,4,none⟩ (.int .i64 0)).setCell ⟨w.heap.size + 1,5,none⟩ (.int .i64 0)).setCell ⟨w.heap.size + 1,6,none⟩ (.slice none 0 0):=⟨_,rfl⟩
   rw [← hw9];have gxw9:GrX [w.heap.size + 1] wr w9:=by
    rw [hw9];exact ((((((((GrX.refl _ _).set (.inl (by simp)) _).set (.inl (by simp)) _).set (.inl (by simp)) _).set (.inl (by simp)) _).set (.inl (by simp)) _).set (.inl (by simp)) _).set (.inl (by simp)) _)
   have hR9:Blk w9 (w.heap.size + 1) #[.int .i64 0,.int .i64 0,.int .i64 0,.int .i64 0,.int .i64 0,.int .i64 0,.slice none 0 0] 39:=by
    rw [hw9];exact (((((((hR2.out.set 0 (.int .i64 0)).set 1 (.int .i64 0)).set 2 (.int .i64 0)).set 3 (.int .i64 0)).set 4 (.int .i64 0)).set 5 (.int .i64 0)).set 6 (.slice none 0 0))
   have d0:=hR9.cell (i:=0) (v:=.int .i64 0) rfl;have d1:=hR9.cell (i:=1) (v:=.int .i64 0) rfl;have d2:=hR9.cell (i:=2) (v:=.int .i64 0) rfl;have d3:=hR9.cell (i:=3) (v:=.int .i64 0) rfl;have d4:=hR9.cell (i:=4) (v:=.int .i64 0) rfl;have d5:=hR9.cell (i:=5) (v:=.int .i64 0) rfl;have d6:=hR9.cell (i:=6) (v:=.slice none 0 0) rfl;refine bodyPost_ret (v:=.tuple #[.agg #[.int .i64 0,.int .i64 0,.int .i64 0,.int .i64 0,.int .i64 0,.int .i64 0,.slice none 0 0],.bool false]) (by simp [results,Tryz.results50,go_sem,d0,d1,d2,d3,d4,d5,d6]) rfl ⟨rfl,?_⟩;exact gxw9.all (gW.trans hg) (fun y hy => by simp at hy;omega)
set_option maxRecDepth 100000 in
set_option maxHeartbeats 3200000 in
theorem rfind_yes (T:TM) (id:Int) (w:World) (h:TreeAt Any w T) {i:Nat} {x:NdM} (hf:FstN T.N id i x) :
 Calls Tryz.prog 50 #[.agg T.row,.int .i64 id] w fun e w' => e = .returned (.tuple #[.agg #[.int .i64 x.e.id,.int .i64 x.e.par,.int .i64 x.e.srv.k,.int .i64 x.e.srv.q,.int .i64 x.e.srv.t,.int .i64 x.e.pol,.slice x.a x.e.tasks.length x.c],.bool true])∧Gr w w':=by
 obtain ⟨hf1,hf2,hf3⟩:=hf;have hil:=get_lt hf1;obtain ⟨W,hW⟩:∃ W,W = (w.alloc (.cells #[.slice T.an T.N.length T.cn,.slice T.ag T.G.length T.cg,.int .i64 T.last,.int .i64 T.now] 27)).alloc (.cells #[.int .i64 0,.int .i64 0,.int .i64 0,.int .i64 0,.int .i64 0,.int .i64 0,.slice none 0 0] 39):=⟨_,rfl⟩
 have gW:Gr w W:=by rw [hW];exact ((Gr.refl w).alloc _).alloc _
 have hO:Blk W (w.heap.size) #[.slice T.an T.N.length T.cn,.slice T.ag T.G.length T.cg,.int .i64 T.last,.int .i64 T.now] 27:=by
  rw [hW];have:=Blk.new (w) #[.slice T.an T.N.length T.cn,.slice T.ag T.G.length T.cg,.int .i64 T.last,.int .i64 T.now] 27;exact (this).alloc _
 have hR:Blk W (w.heap.size + 1) #[.int .i64 0,.int .i64 0,.int .i64 0,.int .i64 0,.int .i64 0,.int .i64 0,.slice none 0 0] 39:=by
  rw [hW];have:=Blk.new ((w).alloc (.cells #[.slice T.an T.N.length T.cn,.slice T.ag T.G.length T.cg,.int .i64 T.last,.int .i64 T.now] 27)) #[.int .i64 0,.int .i64 0,.int .i64 0,.int .i64 0,.int .i64 0,.int .i64 0,.slice none 0 0] 39;rw [World.size_alloc] at this;exact this
 have hWz:W.heap.size = w.heap.size + 2:=by rw [hW];simp
 have hTW:=h.gr gW;have hl1:=h.l1;have o0:=hO.cell (i:=0) (v:=.slice T.an T.N.length T.cn) rfl;have o1:=hO.cell (i:=1) (v:=.slice T.ag T.G.length T.cg) rfl;have o2:=hO.cell (i:=2) (v:=.int .i64 T.last) rfl;have o3:=hO.cell (i:=3) (v:=.int .i64 T.now) rfl;obtain ⟨aN,haN⟩:∃ aN,aN = T.an:=⟨_,rfl⟩
 rw [← haN] at o0;replace haN:=Lib.hid haN;replace hW:=Lib.hid hW;replace hO:=Lib.hid hO;replace hR:=Lib.hid hR;replace h:=Lib.hid h;replace hTW:=Lib.hid hTW;replace hWz:=Lib.hid hWz;replace hf1:=Lib.hid hf1;replace hf2:=Lib.hid hf2;replace hf3:=Lib.hid hf3;go_enter Tryz.func50,Tryz.ntmps50;go_upto_region 1 with fail
 rw [← hW.out];go_wp2_with fail;clear o0 o1 o2 o3;go_loopw [11] (fun iv wr => ∃ k:Nat,k≤i∧iv = .int .i64 k∧Gr W wr) (fun iv _ => T.N.length - (intOf iv).toNat);case atStart => exact ⟨0,Nat.zero_le _,rfl,Gr.refl _⟩
 case round =>
  obtain ⟨k,hk,rfl,hg⟩:=hrel;by_cases hlt:k < i
  ·have hkl:k < T.N.length:=by omega
   have tk:(k:Int) < T.N.length:=by omega
   obtain ⟨y,hy⟩:=get_some T.N k hkl;obtain ⟨b,off,hab,hb,-,c0,c1,c2,c3,c4,c5,c6⟩:=(hTW.out.gr hg).n.get hy;rw [← haN.out] at hab;subst hab;have hne:=hf3.out k y hlt hy;have tp:(y.e.id == id) = false:=by simpa using hne
   replace hy:=Lib.hid hy;replace hne:=Lib.hid hne;go_wp2_with fail;go_roundw;case rel => exact ⟨k + 1,by omega,by go_num,hg.trans ((Gr.refl _).alloc _)⟩
   case measure => simp [intOf];omega
  ·have hki:k = i:=by omega
   subst hki;have tk:(k:Int) < T.N.length:=by omega
   obtain ⟨b,off,hab,hb,-,c0,c1,c2,c3,c4,c5,c6⟩:=(hTW.out.gr hg).n.get hf1.out;rw [← haN.out] at hab;subst hab;have tp:(x.e.id == id) = true:=by simpa using hf2.out
   have hR2:=hR.out.gr hg;have r0:=hR2.cell (i:=0) (v:=.int .i64 0) rfl;have r1:=hR2.cell (i:=1) (v:=.int .i64 0) rfl;have r2:=hR2.cell (i:=2) (v:=.int .i64 0) rfl;have r3:=hR2.cell (i:=3) (v:=.int .i64 0) rfl;have r4:=hR2.cell (i:=4) (v:=.int .i64 0) rfl;have r5:=hR2.cell (i:=5) (v:=.int .i64 0) rfl;have r6:=hR2.cell (i:=6) (v:=.slice none 0 0) rfl;have fr:=fun i => hR2.free i
   have hwz:=hWz.out;have hgz:=hg.size;replace hR2:=Lib.hid hR2;have hz1:w.heap.size + 1 < wr.heap.size:=by omega
   go_wp2_with fail;obtain ⟨w9,hw9⟩:∃ w9,w9 = ((((((wr.setCell ⟨w.heap.size + 1,0,none⟩ (.int .i64 x.e.id)).setCell ⟨w.heap.size + 1,1,none⟩ (.int .i64 x.e.par)).setCell ⟨w.heap.size + 1,2,none⟩ (.int .i64 x.e.srv.k)).setCell ⟨w.heap.size + 1,3,none⟩ (.int .i64 x.e.srv.q)).setCell ⟨w.heap.size + 1,4,none⟩ (.int .i64 x.e.srv.t)).setCell ⟨w.heap.size + 1,5,none⟩ (.int .i64 x.e.pol)).setCell ⟨w.heap.size + 1,6,none⟩ (.slice x.a x.e.tasks.length x.c):=⟨_,rfl⟩
   rw [← hw9];have gxw9:GrX [w.heap.size + 1] wr w9:=by
    rw [hw9];exact ((((((((GrX.refl _ _).set (.inl (by simp)) _).set (.inl (by simp)) _).set (.inl (by simp)) _).set (.inl (by simp)) _).set (.inl (by simp)) _).set (.inl (by simp)) _).set (.inl (by simp)) _)
   have hR8:Blk w9 (w.heap.size + 1) #[.int .i64 x.e.id,.int .i64 x.e.par,.int .i64 x.e.srv.k,.int .i64 x.e.srv.q,.int .i64 x.e.srv.t,.int .i64 x.e.pol,.slice x.a x.e.tasks.length x.c] 39:=by
    rw [hw9];exact (((((((hR2.out.set 0 (.int .i64 x.e.id)).set 1 (.int .i64 x.e.par)).set 2 (.int .i64 x.e.srv.k)).set 3 (.int .i64 x.e.srv.q)).set 4 (.int .i64 x.e.srv.t)).set 5 (.int .i64 x.e.pol)).set 6 (.slice x.a x.e.tasks.length x.c))
   have hR9:=hR8.alloc x.obj;have d0:=hR9.cell (i:=0) (v:=.int .i64 x.e.id) rfl;have d1:=hR9.cell (i:=1) (v:=.int .i64 x.e.par) rfl;have d2:=hR9.cell (i:=2) (v:=.int .i64 x.e.srv.k) rfl;have d3:=hR9.cell (i:=3) (v:=.int .i64 x.e.srv.q) rfl;have d4:=hR9.cell (i:=4) (v:=.int .i64 x.e.srv.t) rfl;have d5:=hR9.cell (i:=5) (v:=.int .i64 x.e.pol) rfl;have d6:=hR9.cell (i:=6) (v:=.slice x.a x.e.tasks.length x.c) rfl;refine bodyPost_ret (v:=.tuple #[.agg #[.int .i64 x.e.id,.int .i64 x.e.par,.int .i64 x.e.srv.k,.int .i64 x.e.srv.q,.int .i64 x.e.srv.t,.int .i64 x.e.pol,.slice x.a x.e.tasks.length x.c],.bool true]) (by simp [results,Tryz.results50,go_sem,d0,d1,d2,d3,d4,d5,d6]) rfl ⟨rfl,?_⟩;exact (gxw9.all (gW.trans hg) (fun y hy => by simp at hy;omega)).alloc _
end Go.Proofs.YtdfelohjdkcpkaaGreatDoor
