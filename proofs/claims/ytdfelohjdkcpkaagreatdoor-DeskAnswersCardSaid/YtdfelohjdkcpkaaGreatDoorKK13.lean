/- almonerref13: SameNode, SameNodes, Same where they are the same. -/
import Derived.Test.YtdfelohjdkcpkaaGreatDoorKK12
import Derived.Maps.Own
import Derived.MapKept
import Derived.WideMake
import Derived.Laws.CopyRow
set_option maxRecDepth 100000
set_option maxHeartbeats 3200000
namespace Go.Proofs.YtdfelohjdkcpkaaGreatDoor
open Go.RowKit
theorem DV {w:World} {a:Option Addr} {l:List AA} (h:Al 4 AA.cells w a l) {i:Nat} {d:AA} (hd:l[i]? = some d):∃ b off,a = some ⟨b,off,none⟩∧b < w.heap.size∧w.cell? ⟨b,off + i * 4,none⟩ = some (.int .i64 d.c)∧w.cell? ⟨b,off + i * 4 + 1,none⟩ = some (.int .i64 d.p)∧w.cell? ⟨b,off + i * 4 + 2,none⟩ = some (.int .i64 d.d)∧w.cell? ⟨b,off + i * 4 + 3,none⟩ = some (.int .i64 d.s):=by
 obtain ⟨b,off,ha,hb,hc⟩:=h i d hd;exact ⟨b,off,ha,hb,hc 0 _ rfl,hc 1 _ rfl,hc 2 _ rfl,hc 3 _ rfl⟩
theorem JM (e:Nd) (a1 a2:Option Addr) (c1 c2:Nat) (w:World) (h1:(⟨e,a1,c1⟩:Ax).ok Any w) (h2:(⟨e,a2,c2⟩:Ax).ok Any w) :
 Calls Tryz.prog 108 #[.agg #[.int .i64 e.id,.int .i64 e.par,.int .i64 e.srv.k,.int .i64 e.srv.q,.int .i64 e.srv.t,.int .i64 e.pol,.slice a1 e.tasks.length c1],.agg #[.int .i64 e.id,.int .i64 e.par,.int .i64 e.srv.k,.int .i64 e.srv.q,.int .i64 e.srv.t,.int .i64 e.pol,.slice a2 e.tasks.length c2]] w fun x w' => x = .returned (.bool true)∧Gr w w':=by
 have hcap:=h1.2.2.2.2;dsimp only at hcap;go_enter Tryz.func108,Tryz.ntmps108;go_wp2_with fail;have gW:=((Gr.refl w).alloc (.cells #[.int .i64 e.id,.int .i64 e.par,.int .i64 e.srv.k,.int .i64 e.srv.q,.int .i64 e.srv.t,.int .i64 e.pol,.slice a1 e.tasks.length c1] 39)).alloc (.cells #[.int .i64 e.id,.int .i64 e.par,.int .i64 e.srv.k,.int .i64 e.srv.q,.int .i64 e.srv.t,.int .i64 e.pol,.slice a2 e.tasks.length c2] 39);go_loopw [44] (fun iv wr => ∃ k:Nat,k≤e.tasks.length∧iv = .int .i64 k∧Gr ((w.alloc (.cells #[.int .i64 e.id,.int .i64 e.par,.int .i64 e.srv.k,.int .i64 e.srv.q,.int .i64 e.srv.t,.int .i64 e.pol,.slice a1 e.tasks.length c1] 39)).alloc (.cells #[.int .i64 e.id,.int .i64 e.par,.int .i64 e.srv.k,.int .i64 e.srv.q,.int .i64 e.srv.t,.int .i64 e.pol,.slice a2 e.tasks.length c2] 39)) wr) (fun iv _ => e.tasks.length - (intOf iv).toNat);case atStart => exact ⟨0,Nat.zero_le _,rfl,Gr.refl _⟩
 case round =>
  obtain ⟨k,hk,rfl,hg⟩:=hrel;obtain ⟨cg,fg,sg⟩:=hg.cells;simp only [zL] at cg fg sg;have k1:=fun o => cg w.heap.size o (by omega)
  have k2:=fun o => cg (w.heap.size + 1) o (by omega)
  clear cg fg;by_cases hlt:k < e.tasks.length
  ·obtain ⟨d,hd⟩:=Ac e.tasks k hlt;obtain ⟨b,off,hb0,hb,d0,d1,d2,d3⟩:=DV ((h1.gr gW).gr hg).1.1 hd;obtain ⟨b',off',hb0',hb',d0',d1',d2',d3'⟩:=DV ((h2.gr gW).gr hg).1.1 hd;dsimp only at hb0 hb0';subst hb0 hb0';replace hd:=zH hd;go_wp2_with fail;go_quiet (fail);go_wp2_with fail;go_roundw;case rel => exact ⟨k + 1,by omega,by go_num,hg.drewN _⟩
   case measure => simp [intOf];omega
  ·go_wp2_with fail;go_ret;exact ⟨rfl,gW.trans hg⟩
theorem I6 (a1 a2:Option Addr) (c1 c2:Nat) (L1 L2:List Ax) (w:World) (h1:El Any w a1 L1) (h2:El Any w a2 L2) (he:L1.map (·.e) = L2.map (·.e)) (hm:L1.length≤maxLen) :
 Calls Tryz.prog 60 #[.slice a1 L1.length c1,.slice a2 L2.length c2] w fun x w' => x = .returned (.bool true)∧Gr w w':=by
 have hlen:L2.length = L1.length:=by simpa using (congrArg List.length he).symm
 have hsm:=fun e a1 a2 c1 c2 (w':World) h1 h2 => JM e a1 a2 c1 c2 w' h1 h2
 replace hsm:=zH hsm;rw [hlen];replace hlen:=zH hlen;replace he:=zH he;unfold maxLen at hm;go_enter Tryz.func60,Tryz.ntmps60;go_wp2_with fail;go_loopw [13] (fun iv wr => ∃ k:Nat,k≤L1.length∧iv = .int .i64 k∧Gr w wr) (fun iv _ => L1.length - (intOf iv).toNat);case atStart => exact ⟨0,Nat.zero_le _,rfl,Gr.refl _⟩
 case round =>
  obtain ⟨k,hk,rfl,hg⟩:=hrel;by_cases hlt:k < L1.length
  ·obtain ⟨x,hx⟩:=Ac L1 k hlt;obtain ⟨y,hy⟩:=Ac L2 k (by rw [hlen.out];exact hlt);have hxy:y.e = x.e:=by
    have e1:(L1.map (·.e))[k]? = some x.e:=by simp [hx]
    have e2:(L2.map (·.e))[k]? = some y.e:=by simp [hy]
    rw [he.out,e2] at e1;exact Option.some.inj e1
   obtain ⟨y,a4,c4⟩:=y;dsimp only at hxy;subst hxy;obtain ⟨b,off,rfl,hb,_,d0,d1,d2,d3,d4,d5,d6⟩:=(h1.gr hg).get hx;obtain ⟨b',off',rfl,hb',_,e0,e1,e2,e3,e4,e5,e6⟩:=(h2.gr hg).get hy;have o1:=(h1.gr hg).2 x (AL hx);have o2:=(h2.gr hg).2 _ (AL hy);dsimp only at e0 e1 e2 e3 e4 e5 e6;have q0:=AB.cell d0;have q1:=AB.cell d1;have q2:=AB.cell d2;have q3:=AB.cell d3;have q4:=AB.cell d4;have q5:=AB.cell d5;have q6:=AB.cell d6;have p0:=AB.cell e0;have p1:=AB.cell e1;have p2:=AB.cell e2;have p3:=AB.cell e3;have p4:=AB.cell e4;have p5:=AB.cell e5;have p6:=AB.cell e6;replace hx:=zH hx;replace hy:=zH hy;go_wp2_with fail;refine Ap (by kernel_rfl) (by kernel_rfl) ?_;repeat (any_goals (first | go_big_quiet_step (first | (exact Calls.grows (hsm.out x.e x.a a4 x.c c4 _ (o1.gr (by exact AB.gr _)) (o2.gr (by exact AB.gr _))))) | quiet_step (first | (exact Calls.grows (hsm.out x.e x.a a4 x.c c4 _ (o1.gr (by exact AB.gr _)) (o2.gr (by exact AB.gr _)))))))
   refine wpQuiet_nil ?_;intro wp hwq;have gp:=AB.of hwq;clear hwq;obtain ⟨cp,fp,sp⟩:=gp.cells;try simp only [Aa] at cp fp sp
   try simp only [zL] at cp fp sp
   try simp only [zD] at cp fp sp
   try simp only [zS] at cp fp sp
   clear q0 q1 q2 q3 q4 q5 q6 p0 p1 p2 p3 p4 p5 p6;go_wp2_with fail;go_roundw;case rel => exact ⟨k + 1,by omega,by go_num,hg.trans gp⟩
   case measure => simp [intOf];omega
  ·go_wp2_with fail;go_ret;exact ⟨rfl,hg⟩
theorem NH (T U:TM) (w:World) (h1:Av Any w T) (h2:Av Any w U) (he:T.v = U.v) :
 Calls Tryz.prog 15 #[.agg T.row,.agg U.row] w fun x w' => x = .returned (.bool true)∧Gr w w':=by
 obtain ⟨N,an,cn,G,ag,cg,la,no⟩:=T;obtain ⟨N2,an2,cn2,G2,ag2,cg2,la2,no2⟩:=U;injection he with he1 he2 he3 he4
 dsimp only at he1 he2 he3 he4;subst he2 he3 he4;have hm:N.length≤maxLen:=Nat.le_trans h1.l1 (by unfold maxLen;omega);have hgm:=h1.l2;dsimp only at hgm;have gW:=((Gr.refl w).alloc (.cells (TM.mk N an cn G ag cg la no).row 27)).alloc (.cells (TM.mk N2 an2 cn2 G ag2 cg2 la no).row 27);have hsn:=I6 an an2 cn cn2 N N2 _ ((h1.gr gW).n) ((h2.gr gW).n) he1 hm;replace hsn:=zH hsn;replace he1:=zH he1;go_enter Tryz.func15,Tryz.ntmps15;go_wp2_with fail;refine hsn.out.mono ?_;rintro e w1 ⟨rfl,g1⟩;have gq:=gW.trans g1;obtain ⟨cg,fg,sg⟩:=g1.cells;simp only [zL] at cg fg sg;have k1:=fun o => cg w.heap.size o (by omega)
 have k2:=fun o => cg (w.heap.size + 1) o (by omega)
 clear cg fg;go_wp2_with fail;clear k1 k2;go_loopw [38] (fun iv wr => ∃ k:Nat,k≤G.length∧iv = .int .i64 k∧Gr w1 wr) (fun iv _ => G.length - (intOf iv).toNat);case atStart => exact ⟨0,Nat.zero_le _,rfl,Gr.refl _⟩
 case round =>
  obtain ⟨k,hk,rfl,hg⟩:=hrel;obtain ⟨cg,fg,sg2⟩:=(g1.trans hg).cells;simp only [zL] at cg fg sg2;have k1:=fun o => cg w.heap.size o (by omega)
  have k2:=fun o => cg (w.heap.size + 1) o (by omega)
  clear cg fg;by_cases hlt:k < G.length
  ·obtain ⟨x,hx⟩:=Ac G k hlt;obtain ⟨b,off,hb0,hb,_,d0,d1,d2,d3,d4⟩:=CF ((h1.gr gq).gr hg).g hx;obtain ⟨b',off',hb0',hb',_,e0,e1,e2,e3,e4⟩:=CF ((h2.gr gq).gr hg).g hx;dsimp only at hb0 hb0';subst hb0 hb0';replace hx:=zH hx;go_wp2_with fail;go_quiet (fail);go_wp2_with fail;go_roundw;case rel => exact ⟨k + 1,by omega,by go_num,hg.drewN _⟩
   case measure => simp [intOf];omega
  ·go_wp2_with fail;go_ret;exact ⟨rfl,gq.trans hg⟩
theorem LW {s:Ao} (h:s.leg = true):Am s [] = none:=Kh (by unfold AE;rw [h,Bool.or_true])
structure C0 (t:Ab):Prop where
 ok:∀ p s,t.server p = some s→Am s (t.counted p) = none
 gp:∀ g ∈ t.ghosts,g.par≤t.last
 up:∀ x ∈ t.nodes,x.par = 0 ∨ ∃ y ∈ t.nodes,y.id = x.par
 lg:∀ x ∈ t.nodes,x.srv.leg = true
theorem NK:Am AU [] = none:=Kh (by decide)
theorem C0.zero:C0 ⟨[],[],0,0⟩:=by
 refine ⟨fun p s h => ?_,by simp,by simp,by simp⟩;rcases Cm h with ⟨rfl,rfl⟩ | ⟨_,x,hf,_⟩
 ·exact NK
 ·exact absurd (BR hf).1 (by simp)
theorem C0.less {t t':Ab} (h:C0 t) (hn:t'.nodes = t.nodes) (hl:t'.last = t.last) (hg:t'.ghosts.Sublist t.ghosts):C0 t':=by
 have hs:∀ p,t'.server p = t.server p:=fun p => by unfold Ab.server Ab.find;rw [hn]
 refine ⟨fun p s hp => ?_,fun g hm => by rw [hl];exact h.gp g (hg.subset hm),by rw [hn];exact h.up,by rw [hn];exact h.lg⟩;refine Oa ?_ (h.ok p s (by rw [← hs];exact hp));unfold Ab.counted;rw [hn];exact (List.Sublist.refl _).append ((hg.filter _).map _)
theorem Kz {t:Ab} {f:Gh→Gh} (hf:∀ g,(f g).par = g.par∧(f g).srv = g.srv∧g.till≤(f g).till) (p:Int):({t with ghosts:=t.ghosts.map f}:Ab).counted p = t.counted p:=by
 unfold Ab.counted;dsimp only;congr 1;rw [List.filter_map,List.map_map];have e1:((fun g:Gh => decide (g.par = p)) ∘ f) = fun g => decide (g.par = p):=by
  funext g;show decide ((f g).par = p) = _;rw [(hf g).1]
 rw [e1];exact List.map_congr_left (fun g _ => (hf g).2.1)
theorem GE (t:Ab) (p q:Int):(t.drained p).counted q = t.counted q:=by
 obtain ⟨f,h1,h2,_⟩:=Di t p;rw [h2];exact Kz h1 q
theorem Dz (t:Ab) (p:Int):(t.drained p).nodes = t.nodes:=by
 obtain ⟨f,h1,h2,_⟩:=Di t p;rw [h2]
theorem Jp (t:Ab) (p:Int):(t.drained p).last = t.last:=by
 obtain ⟨f,h1,h2,_⟩:=Di t p;rw [h2]
theorem Hz (t:Ab) (p q:Int):(t.drained p).server q = t.server q:=by
 unfold Ab.server Ab.find;rw [Dz]
theorem C0.drained {t:Ab} (h:C0 t) (p:Int):C0 (t.drained p):=by
 refine ⟨fun q s hq => ?_,fun g hg => ?_,by rw [Dz];exact h.up,by rw [Dz];exact h.lg⟩
 ·rw [GE];exact h.ok q s (by rw [← Hz t p];exact hq)
 ·rw [Jp];obtain ⟨f,h1,h2,_⟩:=Di t p;rw [h2] at hg;obtain ⟨z,hz,rfl⟩:=List.mem_map.1 hg;rw [(h1 z).1];exact h.gp z hz
theorem Gq {t:Ab} {p:Int} (h1:∀ x ∈ t.nodes,x.par ≠ p) (h2:∀ g ∈ t.ghosts,g.par ≠ p):t.counted p = []:=by
 unfold Ab.counted;rw [List.filter_eq_nil_iff.2 (fun a ha => by simpa using h1 a ha),List.filter_eq_nil_iff.2 (fun a ha => by simpa using h2 a ha)];rfl
theorem HG {t:Ab} {p:Int} (h:t.counted p = []):(∀ x ∈ t.nodes,x.par ≠ p)∧∀ g ∈ t.ghosts,g.par ≠ p:=by
 unfold Ab.counted at h;rw [List.append_eq_nil_iff,List.map_eq_nil_iff,List.map_eq_nil_iff,List.filter_eq_nil_iff,List.filter_eq_nil_iff] at h;exact ⟨fun x hx => by simpa using h.1 x hx,fun g hg => by simpa using h.2 g hg⟩
theorem C0.create {n:Nat} {t:Ab} (hS:Bq n t) (h:C0 t) {o:A8} {s:Ao} (hl:o.srv.leg = true) (hs:t.server o.id = some s) (hk:Am s (t.counted o.id ++ [o.srv]) = none):C0 {t with last:=t.last + 1,nodes:=t.nodes ++ [(⟨t.last + 1,o.id,o.srv,0,[]⟩:Nd)]}:=by
 obtain ⟨b0,b1⟩:=hS.below hs;have hcnt:∀ p,(({t with last:=t.last + 1,nodes:=t.nodes ++ [(⟨t.last + 1,o.id,o.srv,0,[]⟩:Nd)]}:Ab).counted p).Perm (t.counted p ++ if o.id = p then [o.srv] else []):=by
  intro p;unfold Ab.counted;dsimp only;rw [List.filter_append,List.map_append];by_cases hp:o.id = p
  ·rw [if_pos hp,List.filter_cons,if_pos (by simpa using hp)];dsimp only [List.filter_nil,List.map_cons,List.map_nil];rw [List.append_assoc,List.append_assoc];exact List.Perm.append_left _ List.perm_append_comm
  ·rw [if_neg hp,List.filter_cons,if_neg (by simpa using hp)];simp
 refine ⟨fun p s2 hp => ?_,fun g hg => ?_,fun x hx => ?_,fun x hx => ?_⟩
 ·rw [F1 (hcnt p)];rcases Cm hp with ⟨rfl,rfl⟩ | ⟨h0,x,hf,rfl⟩
  ·by_cases hp:o.id = 0
   ·rw [if_pos hp];rw [hp] at hs hk;have:s = AU:=by unfold Ab.server at hs;rw [if_pos rfl] at hs;exact (Option.some.inj hs).symm
    rw [← this];exact hk
   ·rw [if_neg hp,List.append_nil];exact h.ok 0 AU rfl
  ·unfold Ab.find at hf;dsimp only at hf;rw [List.find?_append] at hf;cases hf2:t.nodes.find? (fun n => decide (n.id = p)) with
   | some y =>
    rw [hf2] at hf;obtain rfl:y = x:=by simpa using hf
    have hsp:t.server p = some y.srv:=by unfold Ab.server Ab.find;rw [if_neg h0,hf2];rfl
    by_cases hp:o.id = p
    ·rw [if_pos hp];rw [hp] at hs hk;rw [hsp] at hs;rw [Option.some.inj hs];exact hk
    ·rw [if_neg hp,List.append_nil];exact h.ok p _ hsp
   | none =>
    rw [hf2] at hf;simp only [Option.none_or,List.find?_cons,List.find?_nil] at hf;have hlp:t.last + 1 = p:=by
     by_cases e:t.last + 1 = p
     ·exact e
     ·rw [decide_eq_false e] at hf;cases hf
    rw [decide_eq_true hlp] at hf;have hx:=Option.some.inj hf;rw [← hx];rw [if_neg (by omega),Gq (fun y hy => by have:=hS.lw y hy;omega) (fun g hg => by have:=h.gp g hg;omega)];exact LW hl
 ·have:=h.gp g hg;show g.par≤t.last + 1;omega
 ·show x.par = 0 ∨ ∃ y ∈ t.nodes ++ _,y.id = x.par;rcases List.mem_append.1 (show x ∈ t.nodes ++ [_] from hx) with hx | hx
  ·rcases h.up x hx with h1 | ⟨y,hy,e⟩
   ·exact .inl h1
   ·exact .inr ⟨y,List.mem_append_left _ hy,e⟩
  ·rw [List.mem_singleton.1 hx];rcases Cm hs with ⟨h1,_⟩ | ⟨_,y,hf,_⟩
   ·exact .inl h1
   ·obtain ⟨hm,e⟩:=BR hf;exact .inr ⟨y,List.mem_append_left _ hm,e⟩
 ·rcases List.mem_append.1 (show x ∈ t.nodes ++ [_] from hx) with hx | hx
  ·exact h.lg x hx
  ·rw [List.mem_singleton.1 hx];exact hl
theorem Ff {l:List Nd} {id p:Int} {f:Nd→Nd} (hf:∀ x,(f x).id = x.id):(Bu l id f).find? (fun n => decide (n.id = p)) = (l.find? fun n => decide (n.id = p)).map fun n => if n.id = id then f n else n:=by
 unfold Bu;rw [List.find?_map];congr 1;congr 1;funext n;show decide ((if n.id = id then f n else n).id = p) = _;split
 ·rw [hf]
 ·rfl
theorem Mj {α:Type} (A B G:List α) (a b:α):(A ++ (a :: B) ++ (G ++ [b])).Perm (A ++ (b :: B) ++ G ++ [a]):=by
 have h1:(A ++ (a :: B) ++ (G ++ [b])).Perm (a :: b :: (A ++ B ++ G)):=by
  refine (List.Perm.append_right _ List.perm_middle).trans ?_;rw [List.cons_append];refine List.Perm.cons a ?_;rw [← List.append_assoc];exact List.perm_append_singleton _ _
 have h2:(A ++ (b :: B) ++ G ++ [a]).Perm (a :: b :: (A ++ B ++ G)):=by
  refine (List.perm_append_singleton _ _).trans ?_;refine List.Perm.cons a ?_;refine (List.Perm.append_right _ List.perm_middle).trans ?_;rw [List.cons_append]
 exact h1.trans h2.symm
theorem C0.resize {n:Nat} {t:Ab} (hS:Bq n t) (h:C0 t) {o:A8} {x:Nd} (hl:o.srv.leg = true) (hf:t.find o.id = some x) (hc:t.counted o.id = []) (hk:Am ((t.server x.par).getD AU) (t.counted x.par ++ [o.srv]) = none):C0 {t with nodes:=Bu t.nodes o.id fun n => {n with srv:=o.srv},ghosts:=t.ghosts ++ [(⟨x.par,x.srv,0⟩:Gh)]}:=by
 obtain ⟨A,B,hN,hid,hot⟩:=Hw hS hf;obtain ⟨hm,_⟩:=BR hf;have hxl:=hS.lw x hm;obtain ⟨c1,c2⟩:=HG hc;have hset:Bu t.nodes o.id (fun n => {n with srv:=o.srv}) = A ++ ({x with srv:=o.srv}:Nd) :: B:=by rw [hN];exact Mo hid hot
 refine ⟨fun p s hp => ?_,fun g hg => ?_,fun y hy => ?_,fun y hy => ?_⟩
 ·by_cases hpo:p = o.id
  ·have hs:s = o.srv:=by
    rcases Cm hp with ⟨h1,_⟩ | ⟨_,y,hfy,rfl⟩
    ·omega
    ·unfold Ab.find at hfy;dsimp only at hfy;rw [Ff (f:=fun n => {n with srv:=o.srv}) (fun _ => rfl),hpo,show t.nodes.find? _ = some x from hf] at hfy;dsimp only [Option.map_some] at hfy;rw [if_pos hid] at hfy;rw [← Option.some.inj hfy]
   rw [hs,Gq (fun y hy => ?_) (fun g hg => ?_)]
   ·exact LW hl
   ·obtain ⟨z,hz,⟨_,e⟩ | ⟨_,e⟩⟩:=CL hy <;> (rw [hpo,e];exact c1 z hz)
   ·rcases List.mem_append.1 (show g ∈ t.ghosts ++ [_] from hg) with hg | hg
    ·rw [hpo];exact c2 g hg
    ·rw [List.mem_singleton.1 hg];show x.par ≠ p;omega
  ·have hs:t.server p = some s:=by
    rcases Cm hp with ⟨rfl,rfl⟩ | ⟨h0,y,hfy,rfl⟩
    ·rfl
    ·unfold Ab.find at hfy;dsimp only at hfy;rw [Ff (f:=fun n => {n with srv:=o.srv}) (fun _ => rfl)] at hfy;unfold Ab.server Ab.find;rw [if_neg h0];cases hf2:t.nodes.find? (fun n => decide (n.id = p)) with
     | none => rw [hf2] at hfy;cases hfy
     | some z =>
      rw [hf2] at hfy;have hz:z.id ≠ o.id:=by have:=List.find?_some hf2;simp at this;omega
      dsimp only [Option.map_some] at hfy;rw [if_neg hz] at hfy;rw [Option.some.inj hfy];rfl
   have hcp:(({t with nodes:=Bu t.nodes o.id fun n => {n with srv:=o.srv},ghosts:=t.ghosts ++ [(⟨x.par,x.srv,0⟩:Gh)]}:Ab).counted p).Perm (t.counted p ++ if x.par = p then [o.srv] else []):=by
    unfold Ab.counted;dsimp only;rw [hset,hN];by_cases hp:x.par = p
    ·rw [if_pos hp];simp only [List.filter_append,List.filter_cons,List.map_append,hp,decide_true,if_true,List.map_cons,List.filter_nil,List.map_nil];exact Mj _ _ _ _ _
    ·rw [if_neg hp];simp only [List.filter_append,List.filter_cons,List.map_append,decide_eq_false hp,List.filter_nil,List.append_nil,Bool.false_eq_true,if_false];exact List.Perm.refl _
   rw [F1 hcp];by_cases hp:x.par = p
   ·rw [if_pos hp];rw [hp,hs] at hk;exact hk
   ·rw [if_neg hp,List.append_nil];exact h.ok p s hs
 ·rcases List.mem_append.1 (show g ∈ t.ghosts ++ [_] from hg) with hg | hg
  ·exact h.gp g hg
  ·rw [List.mem_singleton.1 hg];show x.par≤t.last;omega
 ·show y.par = 0 ∨ ∃ z ∈ Bu t.nodes o.id _,z.id = y.par;have hup:∀ z ∈ t.nodes,z.par = 0 ∨ ∃ v ∈ Bu t.nodes o.id (fun n => {n with srv:=o.srv}),v.id = z.par:=fun z hz => by
   rcases h.up z hz with h1 | ⟨v,hv,e⟩
   ·exact .inl h1
   ·refine .inr ⟨if v.id = o.id then {v with srv:=o.srv} else v,List.mem_map.2 ⟨v,hv,rfl⟩,?_⟩;rw [← e];split <;> rfl
  obtain ⟨z,hz,⟨_,e⟩ | ⟨_,e⟩⟩:=CL hy
  ·rw [e];exact hup z hz
  ·rw [e];exact hup z hz
 ·obtain ⟨z,hz,⟨_,e⟩ | ⟨_,e⟩⟩:=CL hy
  ·rw [e];exact h.lg z hz
  ·rw [e];exact hl
theorem Op {α:Type} (A B G:List α) (a:α):(A ++ B ++ (G ++ [a])).Perm (A ++ (a :: B) ++ G):=by
 have h1:(A ++ B ++ (G ++ [a])).Perm (a :: (A ++ B ++ G)):=by
  rw [← List.append_assoc];exact List.perm_append_singleton _ _
 have h2:(A ++ (a :: B) ++ G).Perm (a :: (A ++ B ++ G)):=by
  refine (List.Perm.append_right _ List.perm_middle).trans ?_;rw [List.cons_append]
 exact h1.trans h2.symm
theorem C0.remove {n:Nat} {t:Ab} (hS:Bq n t) (h:C0 t) {o:A8} {x:Nd} (hf:t.find o.id = some x) (hc:t.counted o.id = []) (m:Int):C0 {t with nodes:=t.nodes.filter fun x => decide (x.id ≠ o.id),ghosts:=t.ghosts ++ [(⟨x.par,x.srv,m⟩:Gh)]}:=by
 obtain ⟨A,B,hN,hid,hot⟩:=Hw hS hf;obtain ⟨hm,_⟩:=BR hf;have hxl:=hS.lw x hm;obtain ⟨c1,c2⟩:=HG hc;have hset:t.nodes.filter (fun x => decide (x.id ≠ o.id)) = A ++ B:=by rw [hN];exact Ng hid hot
 refine ⟨fun p s hp => ?_,fun g hg => ?_,fun y hy => ?_,fun y hy => h.lg y ((List.mem_filter.1 hy).1)⟩
 ·have hs:t.server p = some s:=by
   rcases Cm hp with ⟨rfl,rfl⟩ | ⟨h0,y,hfy,rfl⟩
   ·rfl
   ·unfold Ab.find at hfy;dsimp only at hfy;unfold Ab.server Ab.find;rw [if_neg h0];have hy:=BR (t:={t with nodes:=t.nodes.filter fun x => decide (x.id ≠ o.id)}) hfy;have hyo:y.id ≠ o.id:=by have:=(List.mem_filter.1 hy.1).2;simpa using this
    have hpo:p ≠ o.id:=fun e => hyo (hy.2.trans e)
    rw [List.find?_filter] at hfy;have e1:(fun a:Nd => decide (decide (a.id ≠ o.id) = true∧decide (a.id = p) = true)) = fun a => decide (a.id = p):=by
     funext a;by_cases ha:a.id = p
     ·rw [decide_eq_true ha,decide_eq_true (p:=a.id ≠ o.id) (by omega)];decide
     ·rw [decide_eq_false ha];simp
    rw [e1] at hfy;rw [hfy];rfl
  have hcp:(({t with nodes:=t.nodes.filter fun x => decide (x.id ≠ o.id),ghosts:=t.ghosts ++ [(⟨x.par,x.srv,m⟩:Gh)]}:Ab).counted p).Perm (t.counted p):=by
   unfold Ab.counted;dsimp only;rw [hset,hN];by_cases hp:x.par = p
   ·simp only [List.filter_append,List.filter_cons,List.map_append,hp,decide_true,if_true,List.map_cons,List.filter_nil,List.map_nil];exact Op _ _ _ _
   ·simp only [List.filter_append,List.filter_cons,List.map_append,decide_eq_false hp,List.filter_nil,List.append_nil,Bool.false_eq_true,if_false];exact List.Perm.refl _
  rw [F1 hcp];exact h.ok p s hs
 ·rcases List.mem_append.1 (show g ∈ t.ghosts ++ [_] from hg) with hg | hg
  ·exact h.gp g hg
  ·rw [List.mem_singleton.1 hg];show x.par≤t.last;omega
 ·show y.par = 0 ∨ ∃ z ∈ t.nodes.filter (fun x => decide (x.id ≠ o.id)),z.id = y.par;have hyn:=(List.mem_filter.1 hy).1;rcases h.up y hyn with h1 | ⟨v,hv,e⟩
  ·exact .inl h1
  ·refine .inr ⟨v,List.mem_filter.2 ⟨hv,?_⟩,e⟩;have:=c1 y hyn;rw [e];simpa using this
theorem C0.bind {t:Ab} (h:C0 t) (id:Int) (f:Nd→Nd) (hf:∀ x,(f x).id = x.id∧(f x).par = x.par∧(f x).srv = x.srv):C0 {t with nodes:=Bu t.nodes id f}:=by
 have key:∀ z:Nd,(if z.id = id then f z else z).id = z.id∧(if z.id = id then f z else z).par = z.par∧(if z.id = id then f z else z).srv = z.srv:=fun z => by
  split
  ·exact hf z
  ·exact ⟨rfl,rfl,rfl⟩
 have hcn:∀ p,({t with nodes:=Bu t.nodes id f}:Ab).counted p = t.counted p:=fun p => by
  unfold Ab.counted Bu;dsimp only;rw [List.filter_map,List.map_map];have e1:((fun n:Nd => decide (n.par = p)) ∘ fun n => if n.id = id then f n else n) = fun n => decide (n.par = p):=by
   funext g;show decide ((if g.id = id then f g else g).par = p) = _;rw [(key g).2.1]
  rw [e1];congr 1;exact List.map_congr_left (fun g _ => (key g).2.2)
 have hsv:∀ p,({t with nodes:=Bu t.nodes id f}:Ab).server p = t.server p:=fun p => by
  unfold Ab.server Ab.find;by_cases h0:p = 0
  ·rw [if_pos h0,if_pos h0]
  ·rw [if_neg h0,if_neg h0];dsimp only;rw [Ff (fun x => (hf x).1),Option.map_map];congr 1;funext z;exact (key z).2.2
 refine ⟨fun p s hp => by rw [hcn];exact h.ok p s (by rw [← hsv];exact hp),h.gp,fun y hy => ?_,fun y hy => ?_⟩
 ·have hup:∀ z ∈ t.nodes,z.par = 0 ∨ ∃ v ∈ Bu t.nodes id f,v.id = z.par:=fun z hz => by
   rcases h.up z hz with h1 | ⟨v,hv,e⟩
   ·exact .inl h1
   ·exact .inr ⟨_,List.mem_map.2 ⟨v,hv,rfl⟩,by rw [(key v).1];exact e⟩
  obtain ⟨z,hz,rfl⟩:=List.mem_map.1 (show y ∈ t.nodes.map _ from hy);rw [(key z).2.1];exact hup z hz
 ·obtain ⟨z,hz,rfl⟩:=List.mem_map.1 (show y ∈ t.nodes.map _ from hy);rw [(key z).2.2];exact h.lg z hz
theorem C0.step {n:Nat} {t:Ab} (hS:Bq n t) (h:C0 t) (o:A8):C0 (t.apply o).1:=by
 rcases EC t o with ⟨e,_⟩ | ⟨a0,a1,hc⟩
 ·rw [e];exact h
 have u:=hS.tick (a:=o.at_) a1;have hF:C0 (t.tick o.at_):=h.less rfl rfl List.filter_sublist;rcases hc with ⟨_,e⟩ | ⟨_,e⟩ | ⟨_,e⟩ | ⟨_,e⟩ <;> rw [e]
 ·rcases Ea (t.tick o.at_) o with ⟨c,_,e2⟩ | ⟨s,hl,hs,_,_,_,_,hk,e2⟩ <;> rw [e2]
  ·exact hF
  ·exact (hF.create u hl hs hk).drained _
 ·rcases D3 (t.tick o.at_) o with ⟨c,_,e2⟩ | ⟨x,hl,hf,hcn,_,_,hk,e2⟩ <;> rw [e2]
  ·exact hF
  ·exact (hF.resize u hl hf hcn hk).drained _
 ·rcases D4 (t.tick o.at_) o with ⟨c,_,e2⟩ | ⟨x,t1,hf,hcn,e3,e2⟩ <;> rw [e2]
  ·exact hF
  ·have:=hF.remove u hf hcn (if Am ((t1.server x.par).getD AU) (t1.counted x.par) = none then (t.tick o.at_).now + Bo ((t1.server x.par).getD AU) (t1.counted x.par) else 0);rw [e3] at this ⊢;exact this
 ·rcases Fi (t.tick o.at_) o with ⟨c,_,e2⟩ | ⟨x,_,hf,_,_,_,e2⟩ <;> rw [e2]
  ·exact hF
  ·exact hF.bind _ _ (fun _ => ⟨rfl,rfl,rfl⟩)
theorem Kr (l:List A8):C0 (Hn l):=by
 have key:∀ (l:List A8) (n:Nat) (t:Ab),Bq n t→C0 t→C0 (l.foldl (fun t o => (t.apply o).1) t):=by
  intro l;induction l with
  | nil => intro n t _ h;exact h
  | cons o r ih => intro n t hS h;exact ih (n + 1) _ (hS.step o) (h.step hS o)
 exact key l 0 _ Bq.zero C0.zero
theorem JL {t:Ab} {id:Int} (h:id = 0 ∨ ∃ y ∈ t.nodes,y.id = id):∃ s,t.server id = some s:=by
 unfold Ab.server;by_cases h0:id = 0
 ·exact ⟨_,by rw [if_pos h0]⟩
 ·rw [if_neg h0];rcases h with h | ⟨y,hy,e⟩
  ·exact absurd h h0
  ·unfold Ab.find;cases hf:t.nodes.find? (fun n => decide (n.id = id)) with
   | none =>
    have:=List.find?_eq_none.1 hf y hy;simp at this;exact absurd e this
   | some x => exact ⟨_,rfl⟩
theorem C0.at {t:Ab} (h:C0 t) {id:Int} (hi:id = 0 ∨ ∃ y ∈ t.nodes,y.id = id):Am ((t.server id).getD AU) (t.counted id) = none:=by
 obtain ⟨s,hs⟩:=JL hi;have:=h.ok id s hs;rw [hs];exact this
theorem Lf {t:Ab} (h:C0 t) {id:Int} {x:Nd} {f:Nd→Nd} (hf:∀ x,(f x).id = x.id) (hx:t.find id = some x):x.par = 0 ∨ ∃ y ∈ Bu t.nodes id f,y.id = x.par:=by
 rcases h.up x (BR hx).1 with h1 | ⟨v,hv,e⟩
 ·exact .inl h1
 ·refine .inr ⟨_,List.mem_map.2 ⟨v,hv,rfl⟩,?_⟩;rw [← e];split
  ·exact hf v
  ·rfl
theorem Lg {n:Nat} {t:Ab} (hS:Bq n t) (h:C0 t) {id:Int} {x:Nd} (hx:t.find id = some x):x.par = 0 ∨ ∃ y ∈ t.nodes.filter (fun z => decide (z.id ≠ id)),y.id = x.par:=by
 obtain ⟨hm,hid⟩:=BR hx;have hl:=hS.lw x hm;rcases h.up x hm with h1 | ⟨v,hv,e⟩
 ·exact .inl h1
 ·exact .inr ⟨v,List.mem_filter.2 ⟨hv,by simp;omega⟩,e⟩
def Ab.rdepF (t:Ab):Nat→Int→Int
 | 0,_ => -1
 | n + 1,id => if id = 0 then 0 else match t.find id with
  | none => -1
  | some x => 1 + t.rdepF n x.par
theorem OQ (t:Ab):∀ (n:Nat) (id:Int),-1≤t.rdepF n id∧t.rdepF n id≤n:=by
 intro n;induction n with
 | zero => intro id;exact ⟨Int.le_refl _,by show (-1:Int)≤_;omega⟩
 | succ n ih =>
  intro id;unfold Ab.rdepF;split
  ·omega
  ·split
   ·omega
   ·rename_i x _;have:=ih x.par;omega
theorem NR {t:Ab} (hl:∀ x ∈ t.nodes,0≤x.par∧x.par < x.id) (hu:∀ x ∈ t.nodes,x.par = 0 ∨ ∃ y ∈ t.nodes,y.id = x.par) :
 ∀ (n:Nat) (id d:Int),id.toNat < n→(id = 0 ∨ ∃ y ∈ t.nodes,y.id = id)→t.depthF n id d = d + t.rdepF n id:=by
 intro n;induction n with
 | zero => intro id d h;exact absurd h (Nat.not_lt_zero _)
 | succ n ih =>
  intro id d h hx;unfold Ab.depthF Ab.rdepF;by_cases h0:id = 0
  ·rw [if_pos h0,if_pos h0];omega
  ·rw [if_neg h0,if_neg h0];cases hf:t.find id with
   | none =>
    exfalso;rcases hx with hx | ⟨y,hy,hyi⟩
    ·exact h0 hx
    ·unfold Ab.find at hf;rw [List.find?_eq_none] at hf;exact hf y hy (by simpa using hyi)
   | some x =>
    obtain ⟨hm,hxi⟩:=BR hf;have h1:=hl x hm;dsimp only;have hpn:x.par.toNat < n:=by clear hx;omega
    rw [ih x.par (d + 1) hpn (hu x hm)];clear hx;omega
theorem K8 {t:Ab} (hl:∀ x ∈ t.nodes,0≤x.par∧x.par < x.id) (hu:∀ x ∈ t.nodes,x.par = 0 ∨ ∃ y ∈ t.nodes,y.id = x.par) (id:Int):t.rdepF (id.toNat + 1) id = t.depth id:=by
 unfold Ab.depth;by_cases hx:id = 0 ∨ ∃ y ∈ t.nodes,y.id = id
 ·rw [NR hl hu (id.toNat + 1) id 0 (show id.toNat < id.toNat + 1 from Nat.lt_succ_self _) hx,Int.zero_add]
 ·have h0:id ≠ 0:=fun h => hx (.inl h)
  have hf:t.find id = none:=by
   unfold Ab.find;rw [List.find?_eq_none];intro y hy;have:y.id ≠ id:=fun h => hx (.inr ⟨y,hy,h⟩)
   simpa using this
  rw [HF h0 hf];unfold Ab.rdepF;rw [if_neg h0,hf]
theorem MD (t:Ab) (n:Nat):t.rdepF (n + 1) 0 = 0:=by unfold Ab.rdepF;rw [if_pos rfl]
theorem ME {t:Ab} {id:Int} (h0:id ≠ 0) (hf:t.find id = none) (n:Nat):t.rdepF (n + 1) id = -1:=by unfold Ab.rdepF;rw [if_neg h0,hf]
theorem MC {t:Ab} {id:Int} {x:Nd} (h0:id ≠ 0) (hf:t.find id = some x) (n:Nat):t.rdepF (n + 1) id = 1 + t.rdepF n x.par:=by
 show (if id = 0 then 0 else match t.find id with | none => -1 | some x => 1 + t.rdepF n x.par) = _;rw [if_neg h0,hf]
theorem Da {T:TM} {id:Int} (hf:∀ x ∈ T.N,x.e.id ≠ id):T.v.find id = none:=by
 unfold Ab.find;show List.find? _ (T.N.map (·.e)) = _;rw [List.find?_eq_none];intro y hy;obtain ⟨z,hz,rfl⟩:=List.mem_map.1 hy;simpa using hf z hz
theorem NQ (T:TM) (hl:LF T.N):∀ (n:Nat) (id:Int) (w:World),n≤1000001→id.toNat < n→0≤id→Av Any w T →
 Calls Tryz.prog 54 #[.agg T.row,.int .i64 id] w fun e w' => e = .returned (.int .i64 (T.v.rdepF n id))∧Gr w w':=by
 intro n;induction n with
 | zero => intro id w _ h;omega
 | succ n ih =>
  intro id w hn h i0 hT;have hbd:=OQ T.v n;replace ih:=zH ih;replace hbd:=zH hbd;obtain ⟨W,hW⟩:=zE (w.alloc (.cells #[.slice T.an T.N.length T.cn,.slice T.ag T.G.length T.cg,.int .i64 T.last,.int .i64 T.now] 27));have gW:Gr w W:=by rw [hW];exact (Gr.refl w).alloc _
  have hO:Ag W (w.heap.size) #[.slice T.an T.N.length T.cn,.slice T.ag T.G.length T.cg,.int .i64 T.last,.int .i64 T.now] 27:=by
   rw [hW];exact Ag.n0
  have hWz:W.heap.size = w.heap.size + 1:=by rw [hW];simp
  obtain ⟨o0,o1,o2,o3⟩:=hO.c4;replace hW:=zH hW;replace hO:=zH hO;by_cases h0:id = 0
  ·have hv:T.v.rdepF (n + 1) id = 0:=by rw [h0];exact MD _ _
   rw [hv];have tz:(id == 0) = true:=by simpa using h0
   refine AZ ?_ h0 hv hT;clear h0 hv hT;intro h0 hv hT;go_enter Tryz.func54,Tryz.ntmps54;go_upto_region 1 with fail
   rw [← hW.out];go_wp2_with fail;go_ret;exact ⟨rfl,gW⟩
  ·have tz:(id == 0) = false:=by simpa using h0
   have hTW:=hT.gr gW;rcases F2 T.N id with ⟨i,x,hf⟩ | hf
   ·have hv:=MC h0 (Dg hf) n;rw [hv];have hx:=hl x (AL hf.1);have hxi:=hf.2.1;have hbx:=hbd.out x.e.par;obtain ⟨hb1,hb2⟩:=hbx;have hww:IntKind.i64.wrap (1 + T.v.rdepF n x.e.par) = 1 + T.v.rdepF n x.e.par:=by rw [IntKind.wrap_i64] <;> omega
    have hfd:=FU T id W hTW hf;have hrc:=fun w' (g:Gr W w') => ih.out x.e.par w' (by omega) (by omega) (by omega) (hTW.gr g)
    refine Br ?_ hv hx hf hfd hrc hxi h0 hT;clear hv hx hf hfd hrc hxi h0 hT;intro hv hx hf hfd hrc hxi h0 hT;replace hTW:=zH hTW;generalize T.v.rdepF n x.e.par = D at *;go_enter Tryz.func54,Tryz.ntmps54;go_upto_region 1 with fail
    rw [← hW.out];go_wp2_with fail;refine hfd.out.mono ?_;rintro e w1 ⟨rfl,g1⟩;have hO1:=hO.out.gr g1;have hgz:=g1.size;have hOl:=hO.out.lt;have hzz:w.heap.size < w1.heap.size:=by omega
    clear o0 o1 o2 o3;obtain ⟨p0,p1,p2,p3⟩:=hO1.c4;replace hO1:=zH hO1;go_wp2_with fail;refine (hrc.out _ (g1.trans ((Gr.refl w1).alloc _))).mono ?_;rintro e w2 ⟨rfl,g2⟩;go_wp2_with fail;go_ret;exact ⟨rfl,gW.trans (g1.trans (((Gr.refl w1).alloc _).trans g2))⟩
   ·have hv:=ME h0 (Da hf) n;rw [hv];have hfd:=Ha T id W hTW hf;refine Dn ?_ hv hfd hf h0 hT hTW;clear hv hfd hf h0 hT hTW;intro hv hfd hf h0 hT hTW;go_enter Tryz.func54,Tryz.ntmps54;go_upto_region 1 with fail
    rw [← hW.out];go_wp2_with fail;refine hfd.out.mono ?_;rintro e w1 ⟨rfl,g1⟩;go_wp2_with fail;go_ret;exact ⟨rfl,(gW.trans g1).alloc _⟩
theorem K7 (T:TM) (id:Int) (w:World) (h:Av Any w T) (hl:LF T.N) (hu:∀ x ∈ T.v.nodes,x.par = 0 ∨ ∃ y ∈ T.v.nodes,y.id = x.par) (i0:0≤id) (i1:id≤1000000) :
 Calls Tryz.prog 54 #[.agg T.row,.int .i64 id] w fun e w' => e = .returned (.int .i64 (T.v.depth id))∧Gr w w':=by
 rw [← K8 (t:=T.v) (fun x hx => by
  obtain ⟨y,hy,rfl⟩:=List.mem_map.1 hx;have:=hl y hy;exact ⟨this.1,this.2.1⟩) hu id]
 exact NQ T hl _ id w (by omega) (Nat.lt_succ_self _) i0 h
end Go.Proofs.YtdfelohjdkcpkaaGreatDoor
namespace Go.Proofs.YtdfelohjdkcpkaaGreatDoor
open Go.RowKit
open Go.Maps (Keyed)
theorem Tryz.keyedInt:Keyed Tryz.prog 3:=Maps.int_keyed Tryz.underlying3
theorem Oe {k:Int} (h:-9223372036854775808≤k∧k≤9223372036854775807):(Lit.int .i64 k).wf = true:=by
 simp [Lit.wf,IntKind.min,IntKind.max,IntKind.signed,IntKind.bits];exact ⟨h.1,by have:=h.2;omega⟩
theorem B9 {k:Int} (h:-9223372036854775808≤k∧k≤9223372036854775807):keyOf Tryz.prog 3 (.int .i64 k) = some (.int .i64 k):=Maps.keyOf_int_mk Tryz.underlying3 (Oe h)
theorem NU (a:Array Obj) (o o':Obj):(a.push o).setIfInBounds a.size o' = a.push o':=by
 apply Array.ext
 ·simp
 ·intro i h1 h2;rw [Array.getElem_setIfInBounds (by simpa using h1)];by_cases hi:a.size = i
  ·subst hi;simp
  ·rw [if_neg hi];simp at h2;rw [Array.getElem_push_lt (by omega),Array.getElem_push_lt (by omega)]
theorem GL (w:World) (es:Array MapEntry) (clock:Nat) (k:Int) (v:Value) (hk:-9223372036854775808≤k∧k≤9223372036854775807) (hes:∀ e ∈ es.toList,∃ l,keyOf Tryz.prog 3 e.key = some l) (hne:∀ e ∈ es.toList,e.key ≠ .int .i64 k) :
 (Instr.mapUpdate 111 (.map (some w.heap.size)) (.int .i64 k) v).run Tryz.prog (w.alloc (.map es clock)) = .ok () (w.alloc (.map (es.push ⟨.int .i64 k,v,clock⟩) (clock + 1))):=by
 have hb:(w.alloc (.map es clock)).heap[w.heap.size]? = some (.map es clock):=heap_alloc_new w _;rcases Tryz.keyedInt.find (w.alloc (.map es clock)) (B9 hk) es.toList hes with ⟨h1,-⟩ | ⟨j,e,-,h2,h3⟩
 ·simp [Instr.mapUpdate,run_underlying Tryz.underlying111,Go.MapKept.run_getObj_map hb,Tryz.keyedInt.check _ false (B9 hk),h1,Go.MapKept.run_setObj_map _ hb,Result.andThen];have ha:∀ o:Obj,w.alloc o = {w with heap:=w.heap.push o}:=fun _ => rfl
  rw [ha,ha];rw [NU]
 ·exact absurd h3 (hne e (List.mem_of_getElem? h2))
abbrev ordsE:Array MapEntry:=#[⟨.int .i64 1,.func (.func 93) #[] #[],0⟩,⟨.int .i64 2,.func (.func 94) #[] #[],1⟩,⟨.int .i64 3,.func (.func 95) #[] #[],2⟩,⟨.int .i64 4,.func (.func 96) #[] #[],3⟩]
theorem D6 (w:World):Calls Tryz.prog 44 #[] w fun e w' => e = .returned (.map (some w.heap.size))∧w' = w.alloc (.map ordsE 4):=by
 have hmm:=@run_makeMap_plain;have p1:=GL w #[] 0 1 (.func (.func 93) #[] #[]) (by omega) (by simp) (by simp);have p2:=GL w (Array.push #[] ⟨.int .i64 1,.func (.func 93) #[] #[],0⟩) 1 2 (.func (.func 94) #[] #[]) (by omega) (by simp;exact ⟨_,B9 (by omega)⟩) (by simp);have p3:=GL w (Array.push (Array.push #[] ⟨.int .i64 1,.func (.func 93) #[] #[],0⟩) ⟨.int .i64 2,.func (.func 94) #[] #[],1⟩) 2 3 (.func (.func 95) #[] #[]) (by omega) (by simp;exact ⟨⟨_,B9 (by omega)⟩,⟨_,B9 (by omega)⟩⟩) (by simp);have p4:=GL w (Array.push (Array.push (Array.push #[] ⟨.int .i64 1,.func (.func 93) #[] #[],0⟩) ⟨.int .i64 2,.func (.func 94) #[] #[],1⟩) ⟨.int .i64 3,.func (.func 95) #[] #[],2⟩) 3 4 (.func (.func 96) #[] #[]) (by omega) (by simp;exact ⟨⟨_,B9 (by omega)⟩,⟨_,B9 (by omega)⟩,⟨_,B9 (by omega)⟩⟩) (by simp);simp only [List.push_toArray,List.nil_append,List.cons_append,Nat.reduceAdd] at p1 p2 p3 p4;go_enter Tryz.func44,Tryz.ntmps44;go_wp2_with fail;go_ret;exact ⟨rfl,rfl⟩
def Ej (k:Int):Option Nat:=if k = 1 then some 93 else if k = 2 then some 94 else if k = 3 then some 95 else if k = 4 then some 96 else none
theorem OH (w:World):∃ z,(zeroValue 109).run Tryz.prog w = .ok z w:=⟨.nilFunc,by kernel_rfl⟩
theorem Fu (w:World) (b:Nat) (hb:w.heap[b]? = some (.map ordsE 4)) (k:Int) (hk:-9223372036854775808≤k∧k≤9223372036854775807) :
 ∃ z,(Instr.lookup 111 (.map (some b)) (.int .i64 k) true).run Tryz.prog w = .ok (.tuple #[match Ej k with | some f => .func (.func f) #[] #[] | none => z,.bool (Ej k).isSome]) w:=by
 obtain ⟨z,hz⟩:=OH w;refine ⟨z,?_⟩;have hes:∀ e ∈ ordsE.toList,∃ l,keyOf Tryz.prog 3 e.key = some l:=by
  intro e he;simp at he;rcases he with rfl | rfl | rfl | rfl <;> exact ⟨_,B9 (by omega)⟩
 rcases Tryz.keyedInt.find w (B9 hk) ordsE.toList hes with ⟨h1,h4⟩ | ⟨j,e,h1,h2,h3⟩
 ·have n1:k ≠ 1:=fun h => h4 ⟨.int .i64 1,.func (.func 93) #[] #[],0⟩ (by simp) (by rw [h])
  have n2:k ≠ 2:=fun h => h4 ⟨.int .i64 2,.func (.func 94) #[] #[],1⟩ (by simp) (by rw [h])
  have n3:k ≠ 3:=fun h => h4 ⟨.int .i64 3,.func (.func 95) #[] #[],2⟩ (by simp) (by rw [h])
  have n4:k ≠ 4:=fun h => h4 ⟨.int .i64 4,.func (.func 96) #[] #[],3⟩ (by simp) (by rw [h])
  have ho:Ej k = none:=by unfold Ej;rw [if_neg n1,if_neg n2,if_neg n3,if_neg n4]
  rw [ho];simp [Instr.lookup,run_underlying Tryz.underlying111,Go.MapKept.run_getObj_map hb,Tryz.keyedInt.check w false (B9 hk),h1,hz,Result.andThen]
 ·have hcase:Ej k = some (match e.val with | .func (.func f) _ _ => f | _ => 0)∧e.val = .func (.func (match e.val with | .func (.func f) _ _ => f | _ => 0)) #[] #[]:=by
   have he:=List.mem_of_getElem? h2;simp at he;rcases he with rfl | rfl | rfl | rfl <;> (simp at h3;subst h3;exact ⟨rfl,rfl⟩)
  rw [hcase.1];simp [Instr.lookup,run_underlying Tryz.underlying111,Go.MapKept.run_getObj_map hb,Tryz.keyedInt.check w false (B9 hk),h1,Result.andThen];exact hcase.2
end Go.Proofs.YtdfelohjdkcpkaaGreatDoor
namespace Go.Proofs.YtdfelohjdkcpkaaGreatDoor
open Go.RowKit
theorem BP {w:World} {B:Nat} {e:TypeId} {k g n c:Nat} {xs:List Value} (h:w.ownsRow B e k (.slice (some ⟨g,0,none⟩) n c) n xs) (q:Nat) (v:Value):(w.setCell ⟨g,q,none⟩ v).ownsRow B e k (.slice (some ⟨g,0,none⟩) n c) n (xs.set q v):=by
 refine ⟨by rw [List.length_set];exact h.1,?_⟩;rcases h.2 with ⟨h1,_⟩ | ⟨g',cap,cur,h1,h2,h3,h4,h5,h6,h7⟩
 ·cases h1
 ·cases h1
  refine .inr ⟨g,c,cur.setIfInBounds q v,rfl,h2,heap_setCell_same w g q cur e v h3,h4,h5,by simp [h6],?_⟩;rw [Array.toList_setIfInBounds,← h7,List.take_set]
def wrL:List Value→Nat→List Value→List Value
 | xs,_,[] => xs
 | xs,p,v :: vs => wrL (xs.set p v) (p + 1) vs
theorem LH:∀ (vs A ys B:List Value),ys.length = vs.length→wrL (A ++ ys ++ B) A.length vs = A ++ vs ++ B:=by
 intro vs;induction vs with
 | nil => intro A ys B h;cases ys with
  | nil => rfl
  | cons y t => cases h
 | cons v vs ih =>
  intro A ys B h;cases ys with
  | nil => cases h
  | cons y t =>
   unfold wrL;have h1:(A ++ y :: t ++ B).set A.length v = (A ++ [v]) ++ t ++ B:=by simp
   rw [h1];have h2:=ih (A ++ [v]) t B (by simpa using h);rw [List.length_append] at h2;rw [show A.length + 1 = A.length + [v].length from rfl,h2];simp
theorem OI {α:Type} {k:Nat} {enc:α→List Value} (hk:∀ s,(enc s).length = k) (M:List α) (i:Nat) (x:α) (hi:i < M.length):wrL (M.flatMap enc) (i * k) (enc x) = (M.set i x).flatMap enc:=by
 obtain ⟨y,hy⟩:=Ac M i hi;have h1:M = M.take i ++ y :: M.drop (i + 1):=by
  obtain ⟨h3,h4⟩:=List.getElem?_eq_some_iff.1 hy;rw [← h4,← List.drop_eq_getElem_cons h3,List.take_append_drop]
 have hl:(M.take i).length = i:=by simp;omega
 have hA:((M.take i).flatMap enc).length = i * k:=by
  have:∀ l:List α,(l.flatMap enc).length = l.length * k:=by
   intro l;induction l with
   | nil => simp
   | cons a t ih => rw [List.flatMap_cons,List.length_append,ih,hk,List.length_cons,Nat.succ_mul];omega
  rw [this,hl]
 have h2:M.flatMap enc = (M.take i).flatMap enc ++ enc y ++ (M.drop (i + 1)).flatMap enc:=by
  conv => lhs;rw [h1]
  rw [List.flatMap_append,List.flatMap_cons,List.append_assoc]
 have h3:M.set i x = M.take i ++ x :: M.drop (i + 1):=by
  conv => lhs;rw [h1]
  rw [List.set_append,if_neg (by omega),hl,Nat.sub_self];rfl
 rw [h2,← hA,LH _ _ _ _ (by rw [hk,hk]),h3,List.flatMap_append,List.flatMap_cons,List.append_assoc]
theorem NZ {w:World} {B:Nat} {e:TypeId} {k n n' c:Nat} {a:Option Addr} {xs:List Value} (h:w.ownsRow B e k (.slice a n c) n xs) (hn:n'≤n) (ha:a = none→n' = 0→c = 0):w.ownsRow B e k (.slice a n' c) n' (xs.take (n' * k)):=by
 refine ⟨by rw [List.length_take,h.1];have:=Nat.mul_le_mul_right k hn;omega,?_⟩;rcases h.2 with ⟨h1,h2⟩ | ⟨g',cap,cur,h1,h2,h3,h4,h5,h6,h7⟩
 ·cases h1
  obtain rfl:n' = 0:=by omega
  exact .inl ⟨rfl,rfl⟩
 ·cases h1
  refine .inr ⟨g',c,cur,rfl,h2,h3,by omega,h5,h6,?_⟩;rw [← h7,List.take_take,Nat.min_eq_left (Nat.mul_le_mul_right k hn)]
theorem Hg {w:World} {B:Nat} {e t:TypeId} {k g n c:Nat} {xs:List Value} {z:Value} (ht:Tryz.prog.underlying t = some (.slice e)) (hz:∀ w,(zeroValue e).run Tryz.prog w = .ok z w) (hzk:z.cells.size = k) (hz1:∀ u ∈ z.cells,u.oneCell' = true) (h:w.ownsRow B e k (.slice (some ⟨g,0,none⟩) n c) n xs) {i:Nat} (hi:i≤n) (hk:0 < k) :
 ∃ w',(∀ ty c',(Builtin.clear_ #[t] ty #[.slice (some ⟨g,i * k,none⟩) (n - i) c']).run Tryz.prog w = .ok (.tuple #[]) w')∧w'.ownsRow B e k (.slice (some ⟨g,0,none⟩) i c) i (xs.take (i * k))∧Aw [g] w w':=by
 rcases Nat.eq_or_lt_of_le hi with rfl | hlt
 ·refine ⟨w,fun ty c' => ?_,NZ h (Nat.le_refl _) (fun h => by cases h),Aw.refl _ _⟩;rw [Nat.sub_self];simp [Builtin.clear_,run_underlying ht]
 ·rcases h.2 with ⟨h1,_⟩ | ⟨g',cap,cur,h1,h2,h3,h4,h5,h6,h7⟩
  ·cases h1
  ·cases h1
   obtain ⟨vs,hvs⟩:=zE ((Builtin.zeroCells z.cells (n - i)).toList);have hvl:vs.length = (n - i) * k:=by rw [hvs];simp only [Builtin.zeroCells,Array.length_toList,Array.size_map,Array.size_range,hzk]
   have hmul:i * k + (n - i) * k = n * k:=by rw [← Nat.add_mul,show i + (n - i) = n from by omega]
   have hnc:n * k≤c * k:=Nat.mul_le_mul_right k h4;have hv1:∀ v ∈ vs,v.oneCell' = true:=by
    intro v hv;rw [hvs] at hv;simp [Builtin.zeroCells] at hv;obtain ⟨j,hj,rfl⟩:=hv;have hpos:j % z.cells.size < z.cells.size:=Nat.mod_lt _ (by omega);rw [Array.getElem!_eq_getD,Array.getD_eq_getD_getElem?,Array.getElem?_eq_getElem hpos];exact hz1 _ (Array.getElem_mem _)
   have hst:=run_storeCells_at (P:=Tryz.prog) g (i * k) e vs 0 cur w h3 (by omega) hv1;rw [Nat.add_zero] at hst;refine ⟨w.setRow g (cur.toList.take (i * k) ++ vs ++ cur.toList.drop (i * k + vs.length)).toArray,fun ty c' => ?_,?_,?_⟩
   ·obtain ⟨m,hm⟩:∃ m,n - i = m + 1:=⟨n - i - 1,by omega⟩
    rw [hm] at hvs ⊢;simp [Builtin.clear_,run_underlying ht,hz,← hvs,hst]
   ·refine ⟨by rw [List.length_take,h.1];omega,.inr ⟨g,c,_,rfl,h2,setRow_heap w g cur _ e (0,0) h3,by omega,h5,?_,?_⟩⟩
    ·simp only [List.size_toArray,List.length_append,List.length_take,List.length_drop,Array.length_toList,h6,hvl];omega
    ·rw [List.append_assoc,List.take_append_of_le_length (by rw [List.length_take,Array.length_toList,h6];omega),List.take_take,Nat.min_self,← h7,List.take_take,Nat.min_eq_left (by omega)]
   ·exact ⟨rfl,rfl,rfl,by simp,fun b _ hb => setRow_other w g b _ (by simpa using hb)⟩
abbrev CA (now:Int) (g:Gh):Bool:=decide (now < g.till)
theorem Ka (g:Gh) (now:Int) (tb:Nat) (w:World) (hb:tb < w.heap.size) (h:w.cell? ⟨tb,3,none⟩ = some (.int .i64 now)) :
 Calls Tryz.prog 47 #[.agg #[.int .i64 g.par,.int .i64 g.srv.k,.int .i64 g.srv.q,.int .i64 g.srv.t,.int .i64 g.till],.pointer (some ⟨tb,0,none⟩)] w fun e w' => e = .returned (.bool (!CA now g))∧Gr w w':=by
 have e1:(!CA now g) = decide (g.till≤now):=by
  unfold CA;by_cases h1:now < g.till
  ·rw [decide_eq_true h1,decide_eq_false (by omega)];rfl
  ·rw [decide_eq_false h1,decide_eq_true (by omega)];rfl
 rw [e1];have hc:(w.alloc (.cells #[.int .i64 g.par,.int .i64 g.srv.k,.int .i64 g.srv.q,.int .i64 g.srv.t,.int .i64 g.till] 43)).cell? ⟨tb,3,none⟩ = some (.int .i64 now):=(((Gr.refl w).alloc _).cells.1 _ _ hb).trans h;clear e1;go_enter Tryz.func47,Tryz.ntmps47;go_wp2_with fail;go_ret;exact ⟨rfl,(Gr.refl w).alloc _⟩
def Pu (now:Int) (L:List Gh) (w:World) (e:Ending) (w':World):Prop:=Gr w w'∧((e = .returned (.int .i64 (-1))∧∀ g ∈ L,CA now g = true) ∨ ∃ (i:Nat) (x:Gh),e = .returned (.int .i64 i)∧L[i]? = some x∧CA now x = false∧∀ g ∈ L.take i,CA now g = true)
theorem M9 (ag:Option Addr) (cg:Nat) (L:List Gh) (now:Int) (tb:Nat) (w:World) (hr:AC Any 5 Gh.cells w ag L) (hl:L.length≤1000000) (hb:tb < w.heap.size) (h:w.cell? ⟨tb,3,none⟩ = some (.int .i64 now)) :
 Calls Tryz.prog 97 #[.slice ag L.length cg,.func (.func 47) #[] #[.pointer (some ⟨tb,0,none⟩)]] w (Pu now L w):=by
 replace hr:=zH hr;go_enter Tryz.func97,Tryz.ntmps97;go_wp2_with fail;go_loopw [8] (fun iv wr => ∃ k:Nat,k≤L.length∧iv = .int .i64 k∧Hid (∀ g ∈ L.take k,CA now g = true)∧Gr w wr) (fun iv _ => L.length - (intOf iv).toNat);case atStart => exact ⟨0,Nat.zero_le _,rfl,Lib.hid (by simp),Gr.refl _⟩
 case round =>
  obtain ⟨k,hk,rfl,hkp,hg⟩:=hrel;by_cases hlt:k < L.length
  ·obtain ⟨x,hx⟩:=Ac L k hlt;obtain ⟨b,off,hab,hbl,-,c0,c1,c2,c3,c4⟩:=CF (hr.out.grx (hg.x []) (fun _ h => by cases h)) hx;subst hab;have tk:(k:Int) < L.length:=by omega
   have hov:=Ka x now tb wr (by have:=hg.size;omega) ((hg.cells.1 _ _ hb).trans h);replace hx:=zH hx;cases hc:CA now x with
   | true =>
    rw [hc] at hov;replace hov:=zH hov;replace hc:=zH hc;go_wp2_with fail;refine hov.out.mono ?_;rintro e w2 ⟨rfl,g2⟩;go_wp2_with fail;go_roundw;case rel => exact ⟨k + 1,by omega,by go_num,Lib.hid (fun g hgm => by
     rw [Ae hx.out] at hgm;rcases List.mem_append.1 hgm with h1 | h1
     ·exact hkp.out g h1
     ·rw [List.mem_singleton.1 h1];exact hc.out),hg.trans g2⟩
    case measure => simp [intOf];omega
   | false =>
    rw [hc] at hov;replace hov:=zH hov;replace hc:=zH hc;go_wp2_with fail;refine hov.out.mono ?_;rintro e w2 ⟨rfl,g2⟩;go_wp2_with fail;go_ret;exact ⟨hg.trans g2,.inr ⟨k,x,rfl,hx.out,hc.out,hkp.out⟩⟩
  ·have hkn:k = L.length:=by omega
   have tk:¬ (k:Int) < L.length:=by omega
   have tkb:decide ((k:Int) < L.length) = false:=decide_eq_false tk;replace hkn:=zH hkn;go_wp2_with fail;go_ret;exact ⟨hg,.inl ⟨rfl,fun g hgm => hkp.out g (by rw [hkn.out,List.take_length];exact hgm)⟩⟩
theorem M6 {α:Type} {k:Nat} {enc:α→List Value} (hk:∀ s,(enc s).length = k) (M:List α) (i:Nat):(M.flatMap enc).take (i * k) = (M.take i).flatMap enc:=by
 induction M generalizing i with
 | nil => simp
 | cons a t ih =>
  cases i with
  | zero => simp
  | succ i =>
   rw [List.flatMap_cons,List.take_succ_cons,List.flatMap_cons,Nat.succ_mul,Nat.add_comm,← hk a,List.take_length_add_append];rw [hk a,ih]
def LeftP (B:Nat) (now:Int) (ag:Option Addr) (cg:Nat) (L:List Gh) (w:World) (e:Ending) (w':World):Prop:=e = .returned (.slice ag (L.filter (CA now)).length cg)∧w'.ownsRow B 43 5 (.slice ag (L.filter (CA now)).length cg) (L.filter (CA now)).length ((L.filter (CA now)).flatMap Gh.cells)∧Aw (ag.map (·.block)).toList w w'
theorem Hx {α:Type} {p:α→Bool} {l:List α} (h:∀ x ∈ l,p x = true):l.filter p = l:=List.filter_eq_self.2 h
theorem N6 (B:Nat) (ag:Option Addr) (cg:Nat) (L:List Gh) (now:Int) (tb:Nat) (w:World) (hr:w.ownsRow B 43 5 (.slice ag L.length cg) L.length (L.flatMap Gh.cells)) (hl:L.length≤1000000) (hb:tb < w.heap.size) (hne:(Value.slice ag L.length cg).ownBlock ≠ some tb) (h:w.cell? ⟨tb,3,none⟩ = some (.int .i64 now)) :
 Calls Tryz.prog 46 #[.slice ag L.length cg,.func (.func 47) #[] #[.pointer (some ⟨tb,0,none⟩)]] w (LeftP B now ag cg L w):=by
 obtain ⟨a1,c1,e1,r1,n1,b1⟩:=Af Gh.cells_len hr;injection e1 with p1 _ p3
 subst p1 p3;have hfi:=M9 ag cg L now tb w ⟨r1,fun _ _ _ => trivial⟩ hl hb h;obtain ⟨F,hF⟩:=zE (L.filter (CA now));have hFl:F.length≤L.length:=by rw [hF];exact List.length_filter_le _ _
 refine AZ ?_ hfi hr hF;clear hfi hr hF;intro hfi hr hF;clear r1 b1;go_enter Tryz.func46,Tryz.ntmps46;go_wp2_with fail;refine hfi.out.mono ?_;rintro e w1 ⟨g1,⟨rfl,hall⟩ | ⟨i0,x0,rfl,hx0,hk0,hbef⟩⟩
 ·have hFL:L.filter (CA now) = L:=Hx hall;replace hFL:=zH hFL;clear hall;go_wp2_with fail;go_ret;refine ⟨by rw [hFL.out];rfl,?_,g1.x _⟩;rw [hFL.out];exact As hr.out g1
 ·have hi0:=AQ hx0;obtain ⟨g,hag⟩:∃ g,ag = some ⟨g,0,none⟩:=by
   rcases hr.out.2 with ⟨h1,h2⟩ | ⟨g,cap,cur,h1,_⟩
   ·omega
   ·injection h1 with h1;exact ⟨g,h1⟩
  subst hag;have hgt:g ≠ tb:=fun e => hne (by rw [e];rfl)
  have hst:(L.take (i0 + 1)).filter (CA now) = L.take i0:=by
   rw [Ae hx0,List.filter_append,Hx hbef];simp [hk0]
  have hz1:=g1.size;have t0:((i0:Int) == -1) = false:=beq_eq_false_iff_ne.2 (by omega);refine B0 ?_ hx0 hk0 hbef hst;clear hx0 hk0 hbef hst;intro hx0 hk0 hbef hst;go_wp2_with fail;go_loopw [5,6] (fun iv jv wr => ∃ (i j:Nat) (M:List Gh),i < j∧j≤L.length∧iv = .int .i64 i∧jv = .int .i64 j∧Hid (M.length = L.length∧M.take i = (L.take j).filter (CA now)∧M.drop j = L.drop j∧wr.ownsRow B 43 5 (.slice (some ⟨g,0,none⟩) L.length cg) M.length (M.flatMap Gh.cells))∧Aw [g] w wr) (fun _ jv _ => L.length - (intOf jv).toNat);case atStart => exact ⟨i0,i0 + 1,L,by omega,by omega,rfl,by go_num,Lib.hid ⟨rfl,hst.out.symm,rfl,As hr.out g1⟩,g1.x _⟩
  case round =>
   obtain ⟨i,j,M,hij,hj,rfl,rfl,hI,hg⟩:=hrel;obtain ⟨hM,hT,hD,hO⟩:=hI.out;have hgz:=hg.size;by_cases hlt:j < L.length
   ·obtain ⟨x,hx⟩:=Ac L j hlt;have hxM:M[j]? = some x:=by
     have h1:(M.drop j)[0]? = (L.drop j)[0]?:=by rw [hD]
     rw [List.getElem?_drop,List.getElem?_drop] at h1;simpa [hx] using h1
    obtain ⟨a2,c2,e2,r2,n2,b2⟩:=Af Gh.cells_len hO;rw [hM] at e2;cases e2
    obtain ⟨b3,off3,e3,hbl3,-,c0,c1,c2,c3,c4⟩:=CF (K:=Any) ⟨r2,fun _ _ _ => trivial⟩ hxM;cases e3
    have hc3:wr.cell? ⟨tb,3,none⟩ = some (.int .i64 now):=(hg.cell hb (by simpa using hgt.symm) 3).trans h;have g2:Gr wr (wr.alloc (.cells #[.int .i64 x.par,.int .i64 x.srv.k,.int .i64 x.srv.q,.int .i64 x.srv.t,.int .i64 x.till] 43)):=(Gr.refl wr).alloc _;have hov:=Ka x now tb _ (by have:=g2.size;omega) ((g2.cells.1 _ _ (by omega)).trans hc3);have tj:(j:Int) < L.length:=by omega
    simp only [Nat.zero_add] at c0 c1 c2 c3 c4;refine Dn ?_ hx hxM hT hD hM hO;clear hx hxM hT hD hM hO;intro hx hxM hT hD hM hO;clear hI r2 b2;cases hc:CA now x with
    | true =>
     rw [hc] at hov;obtain ⟨y,hy⟩:=Ac M i (by rw [hM.out];omega);replace hov:=zH hov;replace hc:=zH hc;go_wp2_with fail;refine hov.out.mono ?_;rintro e w2 ⟨rfl,g3⟩;have hO3:=As hO.out (g2.trans g3);obtain ⟨a4,c4',e4,r4,n4,b4⟩:=Af Gh.cells_len hO3;injection e4 with q4 q5 q6
     subst q4 q6;clear q5;obtain ⟨b5,off5,e5,hbl5,-,d0,d1,d2,d3,d4⟩:=CF (K:=Any) ⟨r4,fun _ _ _ => trivial⟩ hy;cases e5
     simp only [Nat.zero_add] at d0 d1 d2 d3 d4;have ff:∀ o,w2.frozen? ⟨g,o,none⟩ = false:=fun o => by
      rcases hO3.2 with ⟨h1,_⟩ | ⟨g',cap,cur,h1,_,hh,_⟩
      ·cases h1
      ·injection h1 with h1 _ _;cases h1;simp [World.frozen?,hh]
     have hbx:=(Ag.new wr #[.int .i64 x.par,.int .i64 x.srv.k,.int .i64 x.srv.q,.int .i64 x.srv.t,.int .i64 x.till] 43).gr g3;obtain ⟨x0,x1,x2,x3,x4⟩:=hbx.c5;have ti:(i:Int) < L.length:=by omega
     refine AZ ?_ hy hO3 hbx;clear hy hO3 hbx;intro hy hO3 hbx;clear r4 b4 c0 c1 c2 c3 c4;go_wp2_with fail;refine ⟨⟨i + 1,j + 1,M.set i x,by omega,by omega,by go_num,by go_num,Lib.hid ⟨by rw [List.length_set];exact hM.out,?_,?_,?_⟩,?_⟩,?_⟩
     ·rw [Ae hx.out,List.filter_append,← hT.out];have h1:(M.set i x)[i]? = some x:=by rw [List.getElem?_set_self (by have:=AQ hy.out;omega)]
      rw [Ae h1,List.take_set_of_le (Nat.le_refl _)];simp [hc.out]
     ·rw [List.drop_set_of_lt (by omega),← List.drop_drop,← List.drop_drop,hD.out]
     ·rw [List.length_set,← OI Gh.cells_len M i x (by have:=AQ hy.out;omega)];have q:=hO3.out;rw [hM.out] at q ⊢;exact BP (BP (BP (BP (BP q _ _) _ _) _ _) _ _) _ _
     ·have gg:Aw [g] w w2:=hg.gr (g2.trans g3);exact ((((gg.set (.inl (by simp)) _).set (.inl (by simp)) _).set (.inl (by simp)) _).set (.inl (by simp)) _).set (.inl (by simp)) _
     ·simp [intOf];omega
    | false =>
     rw [hc] at hov;replace hov:=zH hov;replace hc:=zH hc;go_wp2_with fail;refine hov.out.mono ?_;rintro e w2 ⟨rfl,g3⟩;go_wp2_with fail;go_roundw;case rel =>
      refine ⟨i,j + 1,M,by omega,by omega,rfl,by go_num,Lib.hid ⟨hM.out,?_,?_,As hO.out (g2.trans g3)⟩,hg.gr (g2.trans g3)⟩
      ·rw [Ae hx.out,List.filter_append,← hT.out];simp [hc.out]
      ·rw [← List.drop_drop,← List.drop_drop,hD.out]
     case measure => simp [intOf];omega
   ·have hjn:j = L.length:=by omega
    have tj:¬ (j:Int) < L.length:=by omega
    have tjb:decide ((j:Int) < L.length) = false:=decide_eq_false tj;have hTF:M.take i = F:=by rw [hT,hjn,List.take_length,hF.out]
    have hiF:F.length = i:=by rw [← hTF,List.length_take];omega
    have hO2:wr.ownsRow B 43 5 (.slice (some ⟨g,0,none⟩) L.length cg) L.length (M.flatMap Gh.cells):=by rw [hM] at hO;exact hO
    have hcg:=CD hO2 rfl;obtain ⟨w9,hrun,hO9,gx9⟩:=Hg (z:=.agg #[.int .i64 0,.int .i64 0,.int .i64 0,.int .i64 0,.int .i64 0]) Tryz.underlying25 (fun w => by kernel_rfl) (by rfl) (by simp [Value.cells,Value.oneCell']) hO2 (i:=i) (by omega) (by decide);rw [M6 Gh.cells_len,hTF] at hO9;refine Br ?_ hTF hiF hT hD hM hO hO2 hO9;clear hTF hiF hT hD hM hO hO2 hO9;intro hTF hiF hT hD hM hO hO2 hO9;replace hjn:=zH hjn;clear hI;have ti1:(i:Int)≤L.length:=by omega
    have ti2:(i:Int)≤cg:=by omega
    go_wp2_with fail;go_ret;refine ⟨by rw [← hF.out,hiF.out];rfl,?_,hg.trans gx9⟩;rw [← hF.out,hiF.out];rw [← hF.out] at *;exact hO9.out
end Go.Proofs.YtdfelohjdkcpkaaGreatDoor
