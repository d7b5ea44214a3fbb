/- What order.Get needs: numbers in two parts, tasks appended. order.Get of what is in form. Printed by gen_p33.py. -/
import Derived.Test.YteigofaccjaobaaGreatDoorKL4
import Derived.Maps.RangeWalk
import Derived.Maps.OwnSet
import Derived.Deep.WholeRow
import Derived.WideMake
namespace Go.Proofs.YteigofaccjaobaaGreatDoor
open Go.RowKit
theorem numsR_add:∀ (a b:Nat) (l:List UInt8),numsR (a + b) l = (numsR a l).bind fun x => (numsR b (l.drop x.2)).map fun r => (x.1 ++ r.1,x.2 + r.2)
 | 0,b,l => by
  rw [Nat.zero_add];show _ = (numsR b (l.drop 0)).map _;rw [List.drop_zero];cases numsR b l with
  | none => rfl
  | some q => show some q = some (_,_);rw [Nat.zero_add];rfl
 | a + 1,b,l => by
  rw [show a + 1 + b = (a + b) + 1 by omega,numsR_succ,numsR_succ];cases numR l with
  | none => rfl
  | some q =>
   dsimp only;by_cases hq:q.1≤1099511627776
   ·rw [if_pos hq,if_pos hq,numsR_add a b (l.drop q.2)];cases hx:numsR a (l.drop q.2) with
    | none => rfl
    | some x =>
     show ((numsR b ((l.drop q.2).drop x.2)).map _).map _ = (numsR b (l.drop (q.2 + x.2))).map _;rw [List.drop_drop,Option.map_map];congr 1;funext r;show (_,_) = (_,_)
     rw [Nat.add_assoc];rfl
   ·rw [if_neg hq,if_neg hq];rfl
theorem idx_ptr {t:TypeId} {n:Nat} {cs:Array Value} {k:Nat} {a:Addr} (w:World) (h:Tryz.prog.underlying t = some (.array n 287)) (hk:k < n) (hv:cs[k]? = some (.pointer (some a))):(Instr.index t (.agg cs) (.int .i64 k)).run Tryz.prog w = .ok (.pointer (some a)) w:=by
 have h1:(0:Int)≤(k:Int)∧(k:Int) < (n:Int):=by omega
 simp [Instr.index,run_underlying h,asIntOf,h1,hv,go_sem];omega
theorem wpList_appT {B:Nat} {w:World} {ops:Array Oper} {rest:List Oper} {o:Oper} {a:Act} {Q:Exit→Act→World→Prop} (hgd:o.guard = none) (s x:Operand)
 (ho:o.op = .call { callee:=.builtin .append,args:=#[s,x],argTypes:=#[69,69] }) (a1:Option Addr) (c1 n1:Nat) (L1:List Tsk) (hs:a.eval s = .slice a1 n1 c1) (hn:L1.length = n1) (hO:w.ownsRow B 136 4 (.slice a1 n1 c1) L1.length (L1.flatMap Tsk.cells))
 (sa:Option Addr) (c:Nat) (l:List Tsk) (hx:a.eval x = .slice sa l.length c) (hl:RecsAt 4 Tsk.cells w sa l) (hc:sa = none→c = 0) (hb:(n1 + l.length) * 32≤140737488355328) (hB:B≤w.heap.size)
 (h:∀ a' c' w',w'.ownsRow B 136 4 (.slice a' (L1 ++ l).length c') (L1 ++ l).length ((L1 ++ l).flatMap Tsk.cells)→RecsAt 4 Tsk.cells w' a' (L1 ++ l)→(a' = none→c' = 0)→(∀ y,a' = some y→B≤y.block)→w.grownBy w' (Value.slice a1 n1 c1).ownBlock→wpList Tryz.prog ops Q rest (a.put o.dst (.slice a' (L1 ++ l).length c')) w'):wpList Tryz.prog ops Q (o :: rest) a w:=by
 subst hn;obtain ⟨i5,hi,hz0,hz1,hz2⟩:=info_parts Tryz.infoTsk;refine wpList_append_recs (k:=4) (enc:=Tsk.cells) hgd s x 69 ho B 136 i5 _ 32 Tryz.underlying69 hi hz0 hz1 hz2 rfl (by decide) Tsk.cells_len Tsk.cells_one (.slice a1 L1.length c1) L1 hs hO sa c l hx hl hc (by unfold maxLen;omega) hb hB ?_;intro v2 w2 hown2 hgr2;obtain ⟨a2,c2,hv2,hr2,hn2,hB2⟩:=recs_of_owns Tsk.cells_len hown2;subst hv2;exact h a2 c2 w2 hown2 hr2 hn2 hB2 hgr2
theorem RdAt.grown {K:Nat→Prop} {w w':World} {rb:Nat} {p:List UInt8} {at_:Nat} {row:Option Nat} (h:RdAt K w rb p at_) (hg:w.grownBy w' row) (h1:∀ k,row = some k→k ≠ rb∧¬ K k):RdAt K w' rb p at_:=by
 obtain ⟨a,c,e1,e2,e3,e4,e5⟩:=h;refine ⟨a,c,e1.grown hg (fun e => (h1 rb e.symm).1 rfl),e2.grown hg (fun x hx _ e => (h1 _ e).2 (e4 x hx).2),e3,e4,e5⟩
theorem owns_tmax {w:World} {B:Nat} {e:TypeId} {k:Nat} {a:Option Addr} {n c:Nat} {xs:List Value} (h:w.ownsRow B e k (.slice a n c) n xs):n≤c∧c≤maxLen:=by
 rcases h.2 with hn | ⟨g,cap,cur,hv,hg,hh,hn,hm,_⟩
 ·cases hn.1;exact ⟨by have:=hn.2;omega,Nat.zero_le _⟩
 ·cases hv;exact ⟨hn,hm⟩
theorem Blk.set10 {w:World} {b:Nat} {cs:Array Value} {t:TypeId} (h:Blk w b cs t) (hs:cs.size = 10) (v0 v1 v2 v3 v4 v5 v6 v7 v8 v9:Value):Blk ((((((((((w.setCell ⟨b,0,none⟩ v0).setCell ⟨b,1,none⟩ v1).setCell ⟨b,2,none⟩ v2).setCell ⟨b,3,none⟩ v3).setCell ⟨b,4,none⟩ v4).setCell ⟨b,5,none⟩ v5).setCell ⟨b,6,none⟩ v6).setCell ⟨b,7,none⟩ v7).setCell ⟨b,8,none⟩ v8).setCell ⟨b,9,none⟩ v9) b #[v0,v1,v2,v3,v4,v5,v6,v7,v8,v9] t:=by
 obtain ⟨l⟩:=cs
 match l,hs with
 | [c0,c1,c2,c3,c4,c5,c6,c7,c8,c9],_ =>
  have h:=(((((((((h.set 0 v0).set 1 v1).set 2 v2).set 3 v3).set 4 v4).set 5 v5).set 6 v6).set 7 v7).set 8 v8).set 9 v9;simpa only [List.setIfInBounds_toArray,List.set_cons_zero,List.set_cons_succ] using h
theorem GrX.set10 {S:List Nat} {w a:World} {b:Nat} (h:GrX S w a) (hb:b ∈ S) (v0 v1 v2 v3 v4 v5 v6 v7 v8 v9:Value):GrX S w ((((((((((a.setCell ⟨b,0,none⟩ v0).setCell ⟨b,1,none⟩ v1).setCell ⟨b,2,none⟩ v2).setCell ⟨b,3,none⟩ v3).setCell ⟨b,4,none⟩ v4).setCell ⟨b,5,none⟩ v5).setCell ⟨b,6,none⟩ v6).setCell ⟨b,7,none⟩ v7).setCell ⟨b,8,none⟩ v8).setCell ⟨b,9,none⟩ v9) :=
 (((((((((h.set (p:=⟨b,0,none⟩) (.inl hb) v0).set (p:=⟨b,1,none⟩) (.inl hb) v1).set (p:=⟨b,2,none⟩) (.inl hb) v2).set (p:=⟨b,3,none⟩) (.inl hb) v3).set (p:=⟨b,4,none⟩) (.inl hb) v4).set (p:=⟨b,5,none⟩) (.inl hb) v5).set (p:=⟨b,6,none⟩) (.inl hb) v6).set (p:=⟨b,7,none⟩) (.inl hb) v7).set (p:=⟨b,8,none⟩) (.inl hb) v8).set (p:=⟨b,9,none⟩) (.inl hb) v9
abbrev tskNat (t:Tsk):List Nat:=[t.c.toNat,t.p.toNat,t.d.toNat,t.s.toNat]
theorem GrX.trans2 {S T:List Nat} {a b c:World} (h:GrX S a b) (g:GrX T b c) (hT:∀ x,x ∈ T→x ∈ S ∨ a.heap.size≤x):GrX S a c :=
 ⟨g.os.trans h.os,g.tape.trans h.tape,g.output.trans h.output,Nat.le_trans h.size g.size,fun k hk hn => (g.block k (Nat.lt_of_lt_of_le hk h.size) (fun hx => by rcases hT k hx with h1 | h1;exact hn h1;omega)).trans (h.block k hk hn)⟩
theorem step_tasks {L0:List Tsk} {q m d:Nat} {t:Tsk} {l:List UInt8} (ht:L0[q]? = some t) (hqm:q < m) (h:numsR (4 * (m - q)) l = some ((L0.drop q).flatMap tskNat,d)):∃ s,numsR 4 l = some (tskNat t,s)∧numsR (4 * (m - (q + 1))) (l.drop s) = some ((L0.drop (q + 1)).flatMap tskNat,d - s)∧s≤d:=by
 have hm:4 * (m - q) = 4 + 4 * (m - (q + 1)):=by omega
 have hlt:=get_lt ht;have hd:L0.drop q = t :: L0.drop (q + 1):=by
  have he:L0[q] = t:=by have:=List.getElem?_eq_getElem hlt;rw [ht] at this;exact (Option.some.inj this).symm
  rw [List.drop_eq_getElem_cons hlt,he]
 rw [hm,numsR_add,hd,List.flatMap_cons] at h;obtain ⟨x,hx,h2⟩:=Option.bind_eq_some_iff.1 h;obtain ⟨r,hr,h3⟩:=Option.map_eq_some_iff.1 h2;have hxl:=(numsR_get 4 l x.1 x.2 hx).1;have h4:=congrArg Prod.fst h3;have h5:=congrArg Prod.snd h3;dsimp only at h4 h5;obtain ⟨h6,h7⟩:=List.append_inj h4 (by rw [hxl];rfl);refine ⟨x.2,by rw [hx,← h6],?_,by omega⟩;rw [hr,← h7,show d - x.2 = r.2 by omega]
theorem ptrs4a {ab:Nat}:∀ k,k < 4→(#[.pointer (some ⟨ab,0,none⟩),.pointer (some ⟨ab,1,none⟩),.pointer (some ⟨ab,2,none⟩),.pointer (some ⟨ab,3,none⟩)]:Array Value)[k]? = some (.pointer (some ⟨ab,k,none⟩)):=fun k hk => by
 match k,hk with
 | 0,_ => rfl
 | 1,_ => rfl
 | 2,_ => rfl
 | 3,_ => rfl
set_option maxRecDepth 100000 in
set_option maxHeartbeats 12800000 in
theorem orderGet_yes {G:List Nat} {E:Nat→Addr} (w:World) (hE:EAt G E w) (i0:4 ∈ G) (a:Option Addr) (c:Nat) (p:List UInt8) (hS:BytesAt w a p) (hcn:a = none→c = 0) (hpm:p.length≤40000)
 (m0 m1 m2 m3 m4 m5 m6 m7 m8 k j:Nat) (L0:List Tsk) (hN:numsR 10 p = some ([m0,m1,m2,m3,m4,m5,m6,m7,m8,L0.length],k)) (hT:numsR (4 * L0.length) (p.drop k) = some (L0.flatMap tskNat,j)) (hl:k + j = p.length) (hf:entF (⟨m0,m1,m2,m4,⟨m5,m6,m7⟩,m8,L0,m3⟩:Ent) = true) :
 Calls Tryz.prog 162 #[.slice a p.length c] w fun r w' => ∃ a' c',r = .returned (.tuple #[.agg #[.int .i64 m0,.int .i64 m1,.int .i64 m2,.int .i64 m4,.int .i64 m5,.int .i64 m6,.int .i64 m7,.int .i64 m8,.slice a' L0.length c',.int .i64 m3],.nilIface])∧(RecsAt 4 Tsk.cells w' a' L0∧(a' = none→c' = 0)∧L0.length≤c'∧c'≤maxLen∧∀ y,a' = some y→w.heap.size≤y.block)∧Gr w w':=by
 obtain ⟨ht8,htk⟩:=ent_tasks hf;dsimp only at ht8 htk;have hr:=newReader_any (w.alloc (.cells #[.int .i64 0,.int .i64 0,.int .i64 0,.int .i64 0,.int .i64 0,.int .i64 0,.int .i64 0,.int .i64 0,.slice none 0 0,.int .i64 0] 73)) a c p (hS.gr ((Gr.refl w).alloc _)) hcn (by omega);obtain ⟨n,hn⟩:∃ n,p.length = n:=⟨_,rfl⟩
 rw [hn] at hr ⊢;obtain ⟨m9,hm9⟩:∃ m9,L0.length = m9:=⟨_,rfl⟩
 rw [hm9] at hN hT ht8;replace hr:=Lib.hid hr;replace hn:=Lib.hid hn;replace hS:=Lib.hid hS;replace hN:=Lib.hid hN;replace hT:=Lib.hid hT;replace hm9:=Lib.hid hm9;replace hl:=Lib.hid hl;replace hf:=Lib.hid hf;replace htk:=Lib.hid htk;go_enter Tryz.func162,Tryz.ntmps162;go_wp2_with fail;refine hr.out.mono ?_;rintro r w1 ⟨rb,rfl,hr1,hr2,g1⟩;have hR1:Blk w1 w.heap.size #[.int .i64 0,.int .i64 0,.int .i64 0,.int .i64 0,.int .i64 0,.int .i64 0,.int .i64 0,.int .i64 0,.slice none 0 0,.int .i64 0] 73:=(Blk.new w _ _).gr g1;have gw1:Gr w w1:=((Gr.refl w).alloc _).trans g1;have z1:=gw1.size;simp only [World.size_alloc] at hr2;have hzR:=hR1.lt;obtain ⟨nb,hnb⟩:∃ nb,w1.heap.size = nb:=⟨_,rfl⟩
 rw [hnb] at z1 hr1 hzR;have hrl:rb < nb:=by obtain ⟨_,_,hh,_⟩:=hr1;have:=hh.lt;omega
 obtain ⟨W2,hW2⟩:∃ W2,W2 = w1.alloc (.cells #[.int .i64 0,.int .i64 0,.int .i64 0,.int .i64 0,.int .i64 0,.int .i64 0,.int .i64 0,.int .i64 0,.int .i64 0,.int .i64 0] 223):=⟨_,rfl⟩
 have g12:Gr w1 W2:=by rw [hW2];exact (Gr.refl w1).alloc _
 have hr2':=hr1.gr g12;have hb2:Blk W2 nb #[.int .i64 0,.int .i64 0,.int .i64 0,.int .i64 0,.int .i64 0,.int .i64 0,.int .i64 0,.int .i64 0,.int .i64 0,.int .i64 0] 223:=by rw [hW2];exact Blk.new1 hnb
 have hR2:=hR1.gr g12;have gw2:=gw1.trans g12;have zn2:=hb2.lt;have h0:numsR 10 p = (numsR (10 - ([]:List Nat).length) (p.drop 0)).map fun r => ([] ++ r.1,0 + r.2):=by
  rw [List.length_nil,Nat.sub_zero,List.drop_zero];cases numsR 10 p with
  | none => rfl
  | some q => show some q = some (_,_);rw [Nat.zero_add];rfl
 replace h0:=Lib.hid h0;replace hr1:=Lib.hid hr1;replace hr2':=Lib.hid hr2';replace hb2:=Lib.hid hb2;replace hR1:=Lib.hid hR1;replace hR2:=Lib.hid hR2;replace hW2:=Lib.hid hW2;go_upto_region 4 with fail
 rw [← hW2.out];go_loopw [17] (fun iv wr => ∃ (i q:Nat) (ns:List Nat),iv = .int .i64 i∧i≤10∧Hid (ns.length = i)∧Hid (numsR 10 p = (numsR (10 - ns.length) (p.drop q)).map fun r => (ns ++ r.1,q + r.2))∧RdAt (· < nb) wr rb p q∧Blk wr nb (over #[.int .i64 0,.int .i64 0,.int .i64 0,.int .i64 0,.int .i64 0,.int .i64 0,.int .i64 0,.int .i64 0,.int .i64 0,.int .i64 0] ns) 223∧GrX [rb,nb] W2 wr) (fun iv _ => 10 - (intOf iv).toNat);case atStart => exact ⟨0,0,[],rfl,Nat.zero_le _,Lib.hid rfl,h0,hr2'.out,by rw [over_nil];exact hb2.out,GrX.refl _ _⟩
 case round =>
  obtain ⟨i,q,ns,rfl,hi10,hns,heq,hrd,hbl,hg⟩:=hrel;by_cases hi:i < 10
  ·obtain ⟨s1,s2,s3⟩:=numsR_step (by rw [hns.out];exact hi) heq.out;rw [hN.out] at s1 s2;obtain ⟨v,j2,hq,hv⟩:∃ v j2,numR (p.drop q) = some (v,j2)∧v≤1099511627776:=by
    cases hq:numR (p.drop q) with
    | none => have:=s1 hq;cases this
    | some x =>
     by_cases hx:x.1≤1099511627776
     ·exact ⟨x.1,x.2,rfl,hx⟩
     ·have:=s2 x.1 x.2 hq (by omega);cases this
   have s4:=s3 v j2 hq hv;have hi2:(i:Int) < 10:=by omega
   have hnm:=rnum_yes wr rb p q 1099511627776 hrd hq (by omega);clear s1 s2 s3;replace s4:=Lib.hid s4;replace hnm:=Lib.hid hnm;replace hq:=Lib.hid hq;replace hbl:=Lib.hid hbl;replace hrd:=Lib.hid hrd;go_wp2_with fail;refine hnm.out.mono ?_;rintro r w3 ⟨rfl,hrd1,hg1⟩;have hb1:=hbl.out.grx hg1 (by simp;omega);have hsz:i < (over #[.int .i64 0,.int .i64 0,.int .i64 0,.int .i64 0,.int .i64 0,.int .i64 0,.int .i64 0,.int .i64 0,.int .i64 0,.int .i64 0] ns).size:=by rw [over_size (by rw [hns.out];exact hi10)];exact hi
   have cA:=hb1.cell (i:=i) (Array.getElem?_eq_getElem hsz);have fA:=hb1.free i;have hzb:=hb1.lt;have hb3:=hb1.set i (.int .i64 v);rw [show (over #[.int .i64 0,.int .i64 0,.int .i64 0,.int .i64 0,.int .i64 0,.int .i64 0,.int .i64 0,.int .i64 0,.int .i64 0,.int .i64 0] ns).setIfInBounds i (.int .i64 (v:Int)) = over #[.int .i64 0,.int .i64 0,.int .i64 0,.int .i64 0,.int .i64 0,.int .i64 0,.int .i64 0,.int .i64 0,.int .i64 0,.int .i64 0] (ns ++ [v]) by have:=over_set (cs:=#[.int .i64 0,.int .i64 0,.int .i64 0,.int .i64 0,.int .i64 0,.int .i64 0,.int .i64 0,.int .i64 0,.int .i64 0,.int .i64 0]) (ns:=ns) (by rw [hns.out];exact hi) v;rwa [hns.out] at this] at hb3;have hr3:=hrd1.grx (S:=[nb]) ((GrX.refl _ _).set (p:=⟨nb,i,none⟩) (.inl (by simp)) (.int .i64 v)) (by simp;omega) (fun b hb => by simp;omega);replace hb1:=Lib.hid hb1;replace hb3:=Lib.hid hb3;replace hr3:=Lib.hid hr3;replace hrd1:=Lib.hid hrd1;replace hsz:=Lib.hid hsz;go_wp2_with fail;go_roundw;case rel => exact ⟨i + 1,q + j2,ns ++ [v],by go_num,by omega,Lib.hid (by rw [List.length_append,hns.out];rfl),s4,hr3.out,hb3.out,(hg.trans (hg1.mono (fun x hx => by simp at hx;simp [hx]))).set (.inl (by simp)) _⟩
   case measure => simp [intOf];omega
  ·have hie:i = 10:=by omega
   have hib:decide ((i:Int) < 10) = false:=decide_eq_false (by omega);have hdn:=numsR_done (by rw [hns.out];exact hie) heq.out;rw [hN.out] at hdn;obtain ⟨rfl,rfl⟩:ns = [m0,m1,m2,m3,m4,m5,m6,m7,m8,m9]∧k = q:=by cases hdn;exact ⟨rfl,rfl⟩
   have hbl2:Blk wr nb #[.int .i64 m0,.int .i64 m1,.int .i64 m2,.int .i64 m3,.int .i64 m4,.int .i64 m5,.int .i64 m6,.int .i64 m7,.int .i64 m8,.int .i64 m9] 223:=hbl;have gwr:Gr w wr:=GrX.all gw2 hg (fun x hx => by simp at hx;rcases hx with rfl | rfl <;> omega);have hRr:=hR2.out.grx hg (by simp;omega);have cn0:=hbl2.cell (i:=0) (v:=.int .i64 m0) rfl;have cn1:=hbl2.cell (i:=1) (v:=.int .i64 m1) rfl;have cn2:=hbl2.cell (i:=2) (v:=.int .i64 m2) rfl;have cn3:=hbl2.cell (i:=3) (v:=.int .i64 m3) rfl;have cn4:=hbl2.cell (i:=4) (v:=.int .i64 m4) rfl;have cn5:=hbl2.cell (i:=5) (v:=.int .i64 m5) rfl;have cn6:=hbl2.cell (i:=6) (v:=.int .i64 m6) rfl;have cn7:=hbl2.cell (i:=7) (v:=.int .i64 m7) rfl;have cn8:=hbl2.cell (i:=8) (v:=.int .i64 m8) rfl;have cn9:=hbl2.cell (i:=9) (v:=.int .i64 m9) rfl;have hzb:=hbl2.lt;have hzr:=hRr.lt;replace hie:=Lib.hid hie;replace hdn:=Lib.hid hdn;replace hbl:=Lib.hid hbl;replace hbl2:=Lib.hid hbl2;replace hRr:=Lib.hid hRr;replace hrd:=Lib.hid hrd;have h8b:¬ (8:Int) < m9:=by omega
   obtain ⟨eb,heb⟩:∃ eb,wr.heap.size = eb:=⟨_,rfl⟩
   obtain ⟨W3,hW3⟩:∃ W3,W3 = wr.alloc (.cells #[.int .i64 m0,.int .i64 m1,.int .i64 m2,.int .i64 m4,.int .i64 m5,.int .i64 m6,.int .i64 m7,.int .i64 m8,.slice none 0 0,.int .i64 m3] 73):=⟨_,rfl⟩
   have g3:Gr wr W3:=by rw [hW3];exact (Gr.refl wr).alloc _
   have hE3:Blk W3 eb #[.int .i64 m0,.int .i64 m1,.int .i64 m2,.int .i64 m4,.int .i64 m5,.int .i64 m6,.int .i64 m7,.int .i64 m8,.slice none 0 0,.int .i64 m3] 73:=by rw [hW3];exact Blk.new1 heb
   have hR3:=hRr.out.gr g3;have hr3:=hrd.out.gr g3;have gw3:=gwr.trans g3;have z3:W3.heap.size = eb + 1:=by rw [hW3];simp [heb]
   have hT0:numsR (4 * (m9 - 0)) (p.drop (k + 0)) = some ((L0.drop 0).flatMap tskNat,j - 0):=hT.out;have hnbeb:nb < eb:=by omega
   replace hW3:=Lib.hid hW3;replace hE3:=Lib.hid hE3;replace hR3:=Lib.hid hR3;replace hr3:=Lib.hid hr3;replace hT0:=Lib.hid hT0;replace z3:=Lib.hid z3;go_upto_region 15 with fail
   rw [← hW3.out];clear cn0 cn1 cn2 cn3 cn4 cn5 cn6 cn7 cn8 cn9;go_loopw [61] (fun iv wr => ∃ (q u:Nat) (L:List Tsk) (a1:Option Addr) (c1:Nat),iv = .int .i64 q∧q≤m9∧Hid (L = L0.take q)∧Hid (wr.ownsRow W3.heap.size 136 4 (.slice a1 q c1) L.length (L.flatMap Tsk.cells))∧Hid (RecsAt 4 Tsk.cells wr a1 L∧(a1 = none→c1 = 0)∧∀ y,a1 = some y→W3.heap.size≤y.block)∧Hid (numsR (4 * (m9 - q)) (p.drop (k + u)) = some ((L0.drop q).flatMap tskNat,j - u)∧u≤j)∧Hid (RdAt (· < nb) wr rb p (k + u))∧Hid (Blk wr eb #[.int .i64 m0,.int .i64 m1,.int .i64 m2,.int .i64 m4,.int .i64 m5,.int .i64 m6,.int .i64 m7,.int .i64 m8,.slice a1 q c1,.int .i64 m3] 73)∧GrX [rb,eb] W3 wr) (fun iv _ => m9 - (intOf iv).toNat);case atStart => exact ⟨0,0,[],none,0,rfl,Nat.zero_le _,Lib.hid rfl,Lib.hid (World.ownsRow_nil _ _ _ _),Lib.hid ⟨fun i s h => by simp at h,fun _ => rfl,fun y h => by cases h⟩,Lib.hid ⟨hT0.out,Nat.zero_le _⟩,hr3,hE3,GrX.refl _ _⟩
   case round =>
    obtain ⟨q,u,L,a1,c1,rfl,hqm,hL,hO,hrc,hnu,hrd,hbl,hg⟩:=hrel;obtain ⟨wo,rfl⟩:∃ wo:World,wo = wr:=⟨_,rfl⟩
    have hLl:L.length = q:=by rw [hL.out,List.length_take,hm9.out];omega
    have zo:=hg.size;by_cases hq:q < m9
    ·obtain ⟨t,ht⟩:=get_some L0 q (by rw [hm9.out];exact hq);obtain ⟨s,hs4,hsr,hsd⟩:=step_tasks ht hq hnu.out.1;have htn:=tsk_nums (htk.out t (List.mem_of_getElem? ht));have hq2:(q:Int) < m9:=by omega
     have hLn:L ++ [t] = L0.take (q + 1):=by rw [take_snoc ht,← hL.out]
     obtain ⟨tb,htb⟩:∃ tb,wo.heap.size = tb:=⟨_,rfl⟩
     have hz3:=z3.out;have hetb:eb < tb:=by omega
     have hbt:=(Blk.new1 htb:Blk (wo.alloc (.cells #[.int .i64 0,.int .i64 0,.int .i64 0,.int .i64 0] 136)) tb #[.int .i64 0,.int .i64 0,.int .i64 0,.int .i64 0] 136)
     have hrdt:=hrd.out.gr ((Gr.refl wo).alloc (.cells #[.int .i64 0,.int .i64 0,.int .i64 0,.int .i64 0] 136));have h00:numsR 4 (p.drop (k + u)) = (numsR (4 - ([]:List Nat).length) ((p.drop (k + u)).drop 0)).map fun r => ([] ++ r.1,0 + r.2):=by
      rw [List.length_nil,Nat.sub_zero,List.drop_zero];cases numsR 4 (p.drop (k + u)) with
      | none => rfl
      | some q => show some q = some (_,_);rw [Nat.zero_add];rfl
     replace h00:=Lib.hid h00;replace hs4:=Lib.hid hs4;replace hsr:=Lib.hid hsr;replace hLn:=Lib.hid hLn;replace hLl:=Lib.hid hLl;replace ht:=Lib.hid ht;replace htn:=Lib.hid htn;replace hbt:=Lib.hid hbt;replace hrdt:=Lib.hid hrdt;replace hz3:=Lib.hid hz3;go_upto_region 18 with fail
     go_loopw [68] (fun iv wr => ∃ (i v:Nat) (ns:List Nat),iv = .int .i64 i∧i≤4∧Hid (ns.length = i)∧Hid (numsR 4 (p.drop (k + u)) = (numsR (4 - ns.length) ((p.drop (k + u)).drop v)).map fun r => (ns ++ r.1,v + r.2))∧Hid (RdAt (· < nb) wr rb p (k + u + v))∧Hid (Blk wr tb (over #[.int .i64 0,.int .i64 0,.int .i64 0,.int .i64 0] ns) 136)∧GrX [rb,tb] (wo.alloc (.cells #[.int .i64 0,.int .i64 0,.int .i64 0,.int .i64 0] 136)) wr) (fun iv _ => 4 - (intOf iv).toNat);case atStart => exact ⟨0,0,[],rfl,Nat.zero_le _,Lib.hid rfl,h00,hrdt,Lib.hid (by rw [over_nil];exact hbt.out),GrX.refl _ _⟩
     case round =>
      obtain ⟨i,v,ns,rfl,hi4,hns,heq,hrd4,hbl4,hg4⟩:=hrel;by_cases hi:i < 4
      ·obtain ⟨s1,s2,s3⟩:=numsR_step (by rw [hns.out];exact hi) heq.out;rw [List.drop_drop,hs4.out] at s1 s2;rw [List.drop_drop] at s3;obtain ⟨x,j2,hqr,hv⟩:∃ x j2,numR (p.drop (k + u + v)) = some (x,j2)∧x≤1099511627776:=by
        cases hqr:numR (p.drop (k + u + v)) with
        | none => have:=s1 hqr;cases this
        | some x =>
         by_cases hx:x.1≤1099511627776
         ·exact ⟨x.1,x.2,rfl,hx⟩
         ·have:=s2 x.1 x.2 hqr (by omega);cases this
       have s5:=s3 x j2 hqr hv;have hi2:(i:Int) < 4:=by omega
       have hnm:=rnum_yes wr rb p (k + u + v) 1099511627776 hrd4.out hqr (by omega);have hix:=fun w => idx_ptr (cs:=#[.pointer (some ⟨tb,0,none⟩),.pointer (some ⟨tb,1,none⟩),.pointer (some ⟨tb,2,none⟩),.pointer (some ⟨tb,3,none⟩)]) w Tryz.underlying288 hi (ptrs4a i hi)
       clear s1 s2 s3;replace s5:=Lib.hid s5;replace hnm:=Lib.hid hnm;replace hqr:=Lib.hid hqr;go_wp2_with fail;refine hnm.out.mono ?_;rintro r w5 ⟨rfl,hrd5,hg5⟩;have hb5:=hbl4.out.grx hg5 (by simp;omega);have hsz:i < (over #[.int .i64 0,.int .i64 0,.int .i64 0,.int .i64 0] ns).size:=by rw [over_size (by rw [hns.out];exact hi4)];exact hi
       have cA:=hb5.cell (i:=i) (Array.getElem?_eq_getElem hsz);have fA:=hb5.free i;have hzb5:=hb5.lt;have hb6:=hb5.set i (.int .i64 x);rw [show (over #[.int .i64 0,.int .i64 0,.int .i64 0,.int .i64 0] ns).setIfInBounds i (.int .i64 (x:Int)) = over #[.int .i64 0,.int .i64 0,.int .i64 0,.int .i64 0] (ns ++ [x]) by have:=over_set (cs:=#[.int .i64 0,.int .i64 0,.int .i64 0,.int .i64 0]) (ns:=ns) (by rw [hns.out];exact hi) x;rwa [hns.out] at this] at hb6;have hr6:=hrd5.grx (S:=[tb]) ((GrX.refl _ _).set (p:=⟨tb,i,none⟩) (.inl (by simp)) (.int .i64 x)) (by simp;omega) (fun b hb => by simp;omega);rw [Nat.add_assoc] at hr6;replace hb5:=Lib.hid hb5;replace hb6:=Lib.hid hb6;replace hr6:=Lib.hid hr6;replace hrd5:=Lib.hid hrd5;replace hsz:=Lib.hid hsz;go_wp2_with fail;go_roundw;case rel => exact ⟨i + 1,v + j2,ns ++ [x],by go_num,by omega,Lib.hid (by rw [List.length_append,hns.out];rfl),s5,hr6,hb6,(hg4.trans (hg5.mono (fun x hx => by simp at hx;simp [hx]))).set (.inl (by simp)) _⟩
       case measure => simp [intOf];omega
      ·have hie4:i = 4:=by omega
       have hib4:decide ((i:Int) < 4) = false:=decide_eq_false (by omega);have hdn4:=numsR_done (by rw [hns.out];exact hie4) heq.out;rw [hs4.out] at hdn4;obtain ⟨rfl,rfl⟩:ns = tskNat t∧s = v:=by cases hdn4;exact ⟨rfl,rfl⟩
       have hbT:Blk wr tb (Tsk.cells t).toArray 136:=by
        have h1:=hbl4.out;have e:over #[.int .i64 0,.int .i64 0,.int .i64 0,.int .i64 0] (tskNat t) = (Tsk.cells t).toArray:=by
         show #[Value.int .i64 ((t.c.toNat:Nat):Int),.int .i64 ((t.p.toNat:Nat):Int),.int .i64 ((t.d.toNat:Nat):Int),.int .i64 ((t.s.toNat:Nat):Int)] = #[Value.int .i64 t.c,.int .i64 t.p,.int .i64 t.d,.int .i64 t.s];have a0:=(htn.out t.c (by simp [tskN])).1;have a1:=(htn.out t.p (by simp [tskN])).1;have a2:=(htn.out t.d (by simp [tskN])).1;have a3:=(htn.out t.s (by simp [tskN])).1;rw [show ((t.c.toNat:Nat):Int) = t.c by omega,show ((t.p.toNat:Nat):Int) = t.p by omega,show ((t.d.toNat:Nat):Int) = t.d by omega,show ((t.s.toNat:Nat):Int) = t.s by omega]
        rw [e] at h1;exact h1
       have hEr:=(hbl.out.gr ((Gr.refl wo).alloc (.cells #[.int .i64 0,.int .i64 0,.int .i64 0,.int .i64 0] 136))).grx hg4 (by simp;omega);have hobt:∀ x,(Value.slice a1 q c1).ownBlock = some x→W3.heap.size≤x∧x < wo.heap.size:=fun x hx => by
        have:=owns_lt hO.out x hx;exact ⟨this.2,this.1⟩
       have hOr:=owns_grx (owns_gr hO.out ((Gr.refl wo).alloc (.cells #[.int .i64 0,.int .i64 0,.int .i64 0,.int .i64 0] 136))) hg4 (fun x hx => by have:=hobt x hx;have:=z3.out;simp;omega);obtain ⟨wz,hwz⟩:∃ wz,wz = wr.alloc (.cells (Tsk.cells t).toArray 136):=⟨_,rfl⟩
       have gz:Gr wr wz:=by rw [hwz];exact (Gr.refl wr).alloc _
       have hEz:=hEr.gr gz;have hOz:=owns_gr hOr gz;have hrz:=hrd4.out.gr gz;have hsz:RecsAt 4 Tsk.cells wz (some ⟨wr.heap.size,0,none⟩) [t]:=by rw [hwz];exact recs_alloc1 Tsk.cells_len wr rfl [t] _ _ (by simp)
       have gx3:GrX [rb,eb] W3 wz:=((hg.gr ((Gr.refl wo).alloc (.cells #[.int .i64 0,.int .i64 0,.int .i64 0,.int .i64 0] 136))).trans2 hg4 (fun x hx => by simp at hx;rcases hx with rfl | rfl;exact .inl (by simp);exact .inr (by omega))).gr gz;have c8:=hEr.cell (i:=8) (v:=.slice a1 q c1) rfl;have d0:=hbT.cell (i:=0) (v:=.int .i64 t.c) rfl;have d1:=hbT.cell (i:=1) (v:=.int .i64 t.p) rfl;have d2:=hbT.cell (i:=2) (v:=.int .i64 t.d) rfl;have d3:=hbT.cell (i:=3) (v:=.int .i64 t.s) rfl;have hln2:(L ++ [t]).length = q + 1:=by rw [List.length_append,hLl.out];rfl
       have hwz3:W3.heap.size≤wz.heap.size:=gx3.size;have hnr:numsR (4 * (m9 - (q + 1))) (p.drop (k + (u + s))) = some ((L0.drop (q + 1)).flatMap tskNat,j - (u + s)):=by
        have h1:=hsr.out;rw [List.drop_drop,Nat.add_assoc,Nat.sub_sub] at h1;exact h1
       replace hEr:=Lib.hid hEr;replace hOr:=Lib.hid hOr;replace hEz:=Lib.hid hEz;replace hOz:=Lib.hid hOz;replace hrz:=Lib.hid hrz;replace hsz:=Lib.hid hsz;replace hln2:=Lib.hid hln2;replace hnr:=Lib.hid hnr;replace hbT:=Lib.hid hbT;replace hdn4:=Lib.hid hdn4;replace hie4:=Lib.hid hie4;replace hwz:=Lib.hid hwz;go_wp2_with (at_builtin;go_loud (rw [← hwz.out];refine wpList_appT (B:=W3.heap.size) rfl _ _ rfl a1 c1 q L rfl hLl.out hOz.out (some ⟨wr.heap.size,0,none⟩) 1 [t] rfl hsz.out (fun h => by cases h) (by simp;omega) hwz3 ?_;intro a2 c2 w7 hown7 hr7 hn7 hB7 hgr7;rw [hln2.out] at hown7 ⊢;have hE7:=hEz.out.grown hgr7 (fun e => by have:=hobt eb e.symm;have:=z3.out;omega);have hrd7:=RdAt.grown hrz.out hgr7 (fun x hx => by have:=hobt x hx;have:=z3.out;constructor <;> omega);have gx7:=gx3.grown hgr7 (fun x hx => .inr (hobt x hx).1);have e8:=hE7.cell (i:=8) (v:=.slice a1 q c1) rfl;have f8:=hE7.free 8;have z8:=hE7.lt;replace hown7:=Lib.hid hown7;replace hr7:=Lib.hid hr7;replace hn7:=Lib.hid hn7;replace hB7:=Lib.hid hB7;replace hE7:=Lib.hid hE7;replace hrd7:=Lib.hid hrd7;clear hgr7));go_roundw;case rel =>
        have g8:GrX [eb] w7 (w7.setCell ⟨eb,8,none⟩ (.slice a2 (q + 1) c2)):=(GrX.refl _ _).set (.inl (by simp)) _;have z3':=z3.out;refine ⟨q + 1,u + s,L ++ [t],a2,c2,by go_num,by omega,hLn,Lib.hid ?_,Lib.hid ⟨?_,hn7.out,hB7.out⟩,Lib.hid ⟨hnr.out,by have:=hnu.out.2;omega⟩,Lib.hid ?_,Lib.hid (hE7.out.set 8 _),gx7.set (.inl (by simp)) _⟩
        ·rw [hln2.out];exact owns_grx hown7.out g8 (fun x hx => by have:=owns_lt hown7.out x hx;simp;omega)
        ·exact (RecsIn.grx (K:=fun b => W3.heap.size≤b) ⟨hr7.out,fun x hx _ => hB7.out x hx⟩ g8 (fun x hx => by simp at hx;omega)).1
        ·have h1:=hrd7.out.grx g8 (by simp;omega) (fun b hb => by simp;omega);rw [Nat.add_assoc] at h1;exact h1
       case measure => simp [intOf];omega
    ·have hqe:q = m9:=by omega
     have hqb:decide ((q:Int) < m9) = false:=decide_eq_false (by omega);have hLe:L = L0:=by rw [hL.out,List.take_of_length_le (by rw [hm9.out];omega)]
     have hu:u = j:=by
      have h1:=hnu.out;rw [hqe,Nat.sub_self] at h1;obtain ⟨h2,h3⟩:=h1;have h4:(0:Nat) = j - u:=congrArg Prod.snd (Option.some.inj h2);omega
     have hrd8:=hrd.out;rw [hu,hl.out] at hrd8;have hen:=rend_yes wo rb p hrd8;have gwo:Gr w wo:=GrX.all gw3 hg (fun x hx => by simp at hx;rcases hx with rfl | rfl <;> omega);have hRo:=hR3.out.grx hg (by simp;omega);have hO':=hO.out;rw [hLl] at hO';have hmx:=owns_tmax hO';clear hO';have hok:(⟨(⟨m0,m1,m2,m4,⟨m5,m6,m7⟩,m8,L0,m3⟩:Ent),a1,c1⟩:EntM).ok Any wo:=by
      refine ⟨⟨by rw [← hLe];exact hrc.out.1,fun _ _ _ => trivial⟩,hrc.out.2.1,by show L0.length≤c1;rw [hm9.out];omega,hmx.2,by show L0.length * 32≤_;rw [hm9.out];omega⟩
     have hck:=fun w8 (g:Gr wo w8) => check_any (⟨(⟨m0,m1,m2,m4,⟨m5,m6,m7⟩,m8,L0,m3⟩:Ent),a1,c1⟩:EntM) w8 (hok.gr g) (hE.gr (gwo.trans g)) i0
     dsimp only at hck;rw [hf.out,hm9.out] at hck;rw [← hqe] at hck;replace hrd8:=Lib.hid hrd8;replace hen:=Lib.hid hen;replace hRo:=Lib.hid hRo;replace hok:=Lib.hid hok;replace hck:=Lib.hid hck;replace hqe:=Lib.hid hqe;replace hLe:=Lib.hid hLe;replace hu:=Lib.hid hu;go_wp2_with fail;refine hen.out.mono ?_;rintro r w8 ⟨rfl,g8⟩;have hE8:=hbl.out.gr g8;have x8_0:=hE8.cell (i:=0) (v:=.int .i64 m0) rfl;have x8_1:=hE8.cell (i:=1) (v:=.int .i64 m1) rfl;have x8_2:=hE8.cell (i:=2) (v:=.int .i64 m2) rfl;have x8_3:=hE8.cell (i:=3) (v:=.int .i64 m4) rfl;have x8_4:=hE8.cell (i:=4) (v:=.int .i64 m5) rfl;have x8_5:=hE8.cell (i:=5) (v:=.int .i64 m6) rfl;have x8_6:=hE8.cell (i:=6) (v:=.int .i64 m7) rfl;have x8_7:=hE8.cell (i:=7) (v:=.int .i64 m8) rfl;have x8_8:=hE8.cell (i:=8) (v:=.slice a1 q c1) rfl;have x8_9:=hE8.cell (i:=9) (v:=.int .i64 m3) rfl;have hck8:Calls Tryz.prog 61 #[.agg #[.int .i64 m0,.int .i64 m1,.int .i64 m2,.int .i64 m4,.int .i64 m5,.int .i64 m6,.int .i64 m7,.int .i64 m8,.slice a1 q c1,.int .i64 m3]] w8 fun e w' => e = .returned .nilIface∧Gr w8 w':=hck.out w8 g8
     replace hE8:=Lib.hid hE8;replace hck8:=Lib.hid hck8;go_wp2_with fail;refine hck8.out.mono ?_;rintro r w9 ⟨rfl,g9⟩;have hE9:=hE8.out.gr g9;have hR9:=hRo.out.gr (g8.trans g9);have gw9:=gwo.trans (g8.trans g9);have x9_0:=hE9.cell (i:=0) (v:=.int .i64 m0) rfl;have x9_1:=hE9.cell (i:=1) (v:=.int .i64 m1) rfl;have x9_2:=hE9.cell (i:=2) (v:=.int .i64 m2) rfl;have x9_3:=hE9.cell (i:=3) (v:=.int .i64 m4) rfl;have x9_4:=hE9.cell (i:=4) (v:=.int .i64 m5) rfl;have x9_5:=hE9.cell (i:=5) (v:=.int .i64 m6) rfl;have x9_6:=hE9.cell (i:=6) (v:=.int .i64 m7) rfl;have x9_7:=hE9.cell (i:=7) (v:=.int .i64 m8) rfl;have x9_8:=hE9.cell (i:=8) (v:=.slice a1 q c1) rfl;have x9_9:=hE9.cell (i:=9) (v:=.int .i64 m3) rfl;have y9_0:=hR9.cell (i:=0) (v:=.int .i64 0) rfl;have f9_0:=hR9.free 0;have y9_1:=hR9.cell (i:=1) (v:=.int .i64 0) rfl;have f9_1:=hR9.free 1;have y9_2:=hR9.cell (i:=2) (v:=.int .i64 0) rfl;have f9_2:=hR9.free 2;have y9_3:=hR9.cell (i:=3) (v:=.int .i64 0) rfl;have f9_3:=hR9.free 3;have y9_4:=hR9.cell (i:=4) (v:=.int .i64 0) rfl;have f9_4:=hR9.free 4;have y9_5:=hR9.cell (i:=5) (v:=.int .i64 0) rfl;have f9_5:=hR9.free 5;have y9_6:=hR9.cell (i:=6) (v:=.int .i64 0) rfl;have f9_6:=hR9.free 6;have y9_7:=hR9.cell (i:=7) (v:=.int .i64 0) rfl;have f9_7:=hR9.free 7;have y9_8:=hR9.cell (i:=8) (v:=.slice none 0 0) rfl;have f9_8:=hR9.free 8;have y9_9:=hR9.cell (i:=9) (v:=.int .i64 0) rfl;have f9_9:=hR9.free 9;replace hE9:=Lib.hid hE9;replace hR9:=Lib.hid hR9;go_wp2_with fail;refine bodyPost_ret (v:=.tuple #[.agg #[.int .i64 m0,.int .i64 m1,.int .i64 m2,.int .i64 m4,.int .i64 m5,.int .i64 m6,.int .i64 m7,.int .i64 m8,.slice a1 q c1,.int .i64 m3],.nilIface]) ?_ rfl ⟨a1,c1,?_,?_,?_⟩
     ·refine (res_cell (b:=w.heap.size) (t:=73) Tryz.results162 _ _ (hR9.out.set10 ?_ _ _ _ _ _ _ _ _ _ _) ?_ Tryz.underlying73 (by kernel_rfl)).trans ?_
      ·rfl
      ·simp
      ·simp
     ·rw [hm9.out,← hqe.out]
     ·have hrw:=(RecsIn.grx (K:=fun b => W3.heap.size≤b) ⟨RecsAt.of_below hrc.out.1 (B:=wo.heap.size) (fun x hx => (owns_lt hO.out x.block (by rw [hx];rfl)).1) (g8.trans g9),fun x hx _ => hrc.out.2.2 x hx⟩ ((GrX.refl [w.heap.size] w9).set10 (b:=w.heap.size) (by simp) (.int .i64 m0) (.int .i64 m1) (.int .i64 m2) (.int .i64 m4) (.int .i64 m5) (.int .i64 m6) (.int .i64 m7) (.int .i64 m8) (.slice a1 q c1) (.int .i64 m3)) (fun x hx => by simp at hx;have:=z3.out;omega)).1;rw [hLe.out] at hrw;exact ⟨hrw,hrc.out.2.1,by rw [hm9.out];have:=hqe.out;omega,hmx.2,fun y hy => by have:=hrc.out.2.2 y hy;have:=z3.out;omega⟩
     ·exact GrX.all gw9 ((GrX.refl [w.heap.size] w9).set10 (b:=w.heap.size) (by simp) _ _ _ _ _ _ _ _ _ _) (fun x hx => by simp at hx;omega)
theorem listB_map (l:List Int):listB l = (l.map Int.toNat).flatMap numB:=by
 unfold listB;rw [List.flatMap_map]
theorem tsk_nat (l:List Tsk):(l.flatMap tskN).map Int.toNat = l.flatMap tskNat:=by
 rw [List.map_flatMap];rfl
theorem ent_read {e:Ent} (hf:entF e = true):∃ k j,numsR 10 (listB (entN e)) = some ((headN e).map Int.toNat,k)∧numsR (4 * e.tasks.length) ((listB (entN e)).drop k) = some (e.tasks.flatMap tskNat,j)∧k + j = (listB (entN e)).length:=by
 have hn:=entN_nums hf;have hB:listB (entN e) = ((headN e).map Int.toNat).flatMap numB ++ (e.tasks.flatMap tskNat).flatMap numB:=by
  rw [listB_map];unfold entN;rw [List.map_append,List.flatMap_append,tsk_nat]
 have h1:∀ n ∈ (headN e).map Int.toNat,n≤1099511627776:=fun n hn' => by
  obtain ⟨x,hx,rfl⟩:=List.mem_map.1 hn';have:=hn x (List.mem_append_left _ hx);omega
 have h2:∀ n ∈ e.tasks.flatMap tskNat,n≤1099511627776:=fun n hn' => by
  rw [← tsk_nat] at hn';obtain ⟨x,hx,rfl⟩:=List.mem_map.1 hn';have:=hn x (List.mem_append_right _ hx);omega
 have hlt:(e.tasks.flatMap tskNat).length = 4 * e.tasks.length:=by
  rw [← tsk_nat,List.length_map,tsks_len];omega
 refine ⟨(((headN e).map Int.toNat).flatMap numB).length,((e.tasks.flatMap tskNat).flatMap numB).length,?_,?_,?_⟩
 ·rw [hB];exact numsR_put _ _ h1
 ·rw [hB,List.drop_left,← hlt];have:=numsR_put (e.tasks.flatMap tskNat) [] h2
  rwa [List.append_nil] at this
 ·rw [hB,List.length_append]
def LedW (l:List Ent) (w:World) (e:Ending) (w':World):Prop :=
 ∃ a c L,e = .returned (.tuple #[.slice a l.length c,.nilIface])∧Ents L = l∧LedM (fun b => w.heap.size≤b) w' a L∧(a = none→c = 0)∧l.length≤c∧c≤maxLen∧Gr w w'
theorem int_nat {n:Int} (h:0≤n):((n.toNat:Nat):Int) = n:=Int.toNat_of_nonneg h
theorem oget_yes {G:List Nat} {E:Nat→Addr} (w:World) (hE:EAt G E w) (i0:4 ∈ G) (a:Option Addr) (c:Nat) (e:Ent) (hf:entF e = true) (hS:BytesAt w a (listB (entN e))) (hcn:a = none→c = 0) :
 Calls Tryz.prog 162 #[.slice a (listB (entN e)).length c] w fun r w' => ∃ a' c',r = .returned (.tuple #[.agg #[.int .i64 e.cl,.int .i64 e.nu,.int .i64 e.kd,.int .i64 e.id,.int .i64 e.srv.k,.int .i64 e.srv.q,.int .i64 e.srv.t,.int .i64 e.po,.slice a' e.tasks.length c',.int .i64 e.at_],.nilIface])∧(⟨e,a',c'⟩:EntM).ok (fun b => w.heap.size≤b) w'∧Gr w w':=by
 obtain ⟨k,j,h1,h2,h3⟩:=ent_read hf;have hb:=entB_len hf;obtain ⟨ht8,-⟩:=ent_tasks hf;have hh:=fun x hx => (ent_head hf x hx).1
 obtain ⟨cl,nu,kd,id_,⟨sk,sq,st⟩,po,ts,at_⟩:=e;have z0:=hh cl (by simp [headN]);have z1:=hh nu (by simp [headN]);have z2:=hh kd (by simp [headN]);have z3:=hh at_ (by simp [headN]);have z4:=hh id_ (by simp [headN]);have z5:=hh sk (by simp [headN]);have z6:=hh sq (by simp [headN]);have z7:=hh st (by simp [headN]);have z8:=hh po (by simp [headN]);obtain ⟨p,hp⟩:∃ p,p = listB (entN ⟨cl,nu,kd,id_,⟨sk,sq,st⟩,po,ts,at_⟩):=⟨_,rfl⟩
 rw [← hp] at h1 h2 h3 hb hS ⊢;clear hp hh;dsimp only at *;have hN:numsR 10 p = some ([cl.toNat,nu.toNat,kd.toNat,at_.toNat,id_.toNat,sk.toNat,sq.toNat,st.toNat,po.toNat,ts.length],k):=by
  rw [h1];simp [headN]
 have e0:=int_nat z0;have e1:=int_nat z1;have e2:=int_nat z2;have e3:=int_nat z3;have e4:=int_nat z4;have e5:=int_nat z5;have e6:=int_nat z6;have e7:=int_nat z7;have e8:=int_nat z8;have:=orderGet_yes w hE i0 a c p hS hcn (by omega) cl.toNat nu.toNat kd.toNat at_.toNat id_.toNat sk.toNat sq.toNat st.toNat po.toNat k j ts hN h2 h3 (by rw [e0,e1,e2,e3,e4,e5,e6,e7,e8];exact hf);rw [e0,e1,e2,e3,e4,e5,e6,e7,e8] at this;refine this.mono ?_;rintro r w' ⟨a',c',rfl,⟨q1,q2,q3,q4,q5⟩,g⟩;exact ⟨a',c',rfl,⟨⟨q1,fun x hx _ => q5 x hx⟩,q2,q3,q4,by show ts.length * 32≤_;omega⟩,g⟩
theorem ledB_len {l:List Ent} (h:ledF l = true):(ledB l).length≤20000:=by
 obtain ⟨h1,h2⟩:=ledF_iff.1 h;unfold ledB;rw [List.length_append];have h3:=numB_6 (n:=l.length) (by omega);have h4:=items_len h2;omega
theorem items_drop {l:List Ent} {k:Nat} {e:Ent} (h:l[k]? = some e) (n:Nat):(numB n ++ l.flatMap itemB).drop (numB n ++ (l.take k).flatMap itemB).length = itemB e ++ (l.drop (k + 1)).flatMap itemB:=by
 have h1:l = l.take k ++ e :: l.drop (k + 1):=by
  have hk:k < l.length:=(List.getElem?_eq_some_iff.1 h).1;have h2:=List.getElem_cons_drop hk;rw [(List.getElem?_eq_some_iff.1 h).2] at h2;rw [h2,List.take_append_drop]
 have h2:numB n ++ l.flatMap itemB = (numB n ++ (l.take k).flatMap itemB) ++ (itemB e ++ (l.drop (k + 1)).flatMap itemB):=by
  conv => lhs;rw [h1]
  rw [List.flatMap_append,List.flatMap_cons,← List.append_assoc]
 rw [h2,List.drop_left]
set_option maxRecDepth 100000 in
set_option maxHeartbeats 3200000 in
theorem oread_yes {G:List Nat} {E:Nat→Addr} (w:World) (hE:EAt G E w) (i0:4 ∈ G) (a:Option Addr) (c:Nat) (l:List Ent) (hl:ledF l = true) (hS:BytesAt w a (ledB l)) (hcn:a = none→c = 0) :
 Calls Tryz.prog 129 #[.slice a (ledB l).length c] w (LedW l w):=by
 obtain ⟨i36,hi,hz0,hz1,hz2⟩:=info_parts Tryz.infoEnt;obtain ⟨hl64,hlf⟩:=ledF_iff.1 hl;have hbl:=ledB_len hl;have hnr:=newReader_any w a c (ledB l) hS hcn (by omega);have hnum:numR ((ledB l).drop 0) = some (l.length,(numB l.length).length):=by
  rw [List.drop_zero];exact numR_put (by omega) _
 obtain ⟨bl,hbl2⟩:∃ bl,bl = (ledB l).length:=⟨_,rfl⟩
 obtain ⟨n,hn⟩:∃ n,n = l.length:=⟨_,rfl⟩
 rw [← hbl2] at hnr hbl ⊢;rw [← hn] at hnum hl64;replace hbl2:=Lib.hid hbl2;replace hnr:=Lib.hid hnr;replace hnum:=Lib.hid hnum;replace hlf:=Lib.hid hlf;replace hl:=Lib.hid hl;replace hn:=Lib.hid hn;replace hE:=Lib.hid hE;replace hS:=Lib.hid hS;go_enter Tryz.func129,Tryz.ntmps129;go_wp2_with fail;refine hnr.out.mono ?_;rintro q w1 ⟨rb,rfl,hR,hrb,g1⟩;have m1:=rnum_yes w1 rb _ 0 64 hR hnum.out (by omega);have hrl:rb < w1.heap.size:=by obtain ⟨_,_,hh,_⟩:=hR;exact hh.lt
 replace hR:=Lib.hid hR;replace m1:=Lib.hid m1;go_wp2_with fail;refine m1.out.mono ?_;rintro q w2 ⟨rfl,hR2,g2⟩;rw [Nat.zero_add] at hR2;have hs2:=g2.size;replace hR2:=Lib.hid hR2;go_wp2_with fail;go_loopw [23,7] (fun iv v wr => ∃ (k:Nat) (L':List EntM),k≤n∧iv = .int .i64 k∧Hid (L'.length = k∧Ents L' = l.take k∧RdAt (fun b => b < w1.heap.size) wr rb (ledB l) (numB n ++ (l.take k).flatMap itemB).length)∧wr.ownsRow w1.heap.size 73 10 v L'.length (L'.flatMap EntM.cells)∧Hid (∀ x ∈ L',x.ok (fun b => w1.heap.size≤b) wr∧∀ ad,x.a = some ad→x.e.tasks ≠ []→v.ownBlock ≠ some ad.block)∧GrX [rb] w1 wr) (fun iv _ _ => n - (intOf iv).toNat);case atStart => exact ⟨0,[],Nat.zero_le _,rfl,Lib.hid ⟨rfl,by simp,by rw [List.take_zero,List.flatMap_nil,List.append_nil];exact hR2.out⟩,World.ownsRow_nil _ _ _ _,Lib.hid (fun _ h => by cases h),g2⟩
 case round =>
  obtain ⟨k,L',hk,rfl,hI,hown,hoks,hg⟩:=hrel;obtain ⟨hlen,hmap,hRd⟩:=hI.out;clear hI;have zg:=hg.size;by_cases hlt:k < n
  ·obtain ⟨e,he⟩:=get_some l k (by rw [← hn.out];exact hlt);have hf:=hlf.out e (get_mem he);have hpl:=entB_len hf;obtain ⟨P,hP⟩:∃ P,P = listB (entN e):=⟨_,rfl⟩
   have hdr:=items_drop he n;have hlB:ledB l = numB n ++ l.flatMap itemB:=by unfold ledB;rw [← hn.out]
   rw [← hlB] at hdr;have hit:itemB e = numB P.length ++ P:=by unfold itemB;rw [← hP]
   rw [hit] at hdr;obtain ⟨at0,hat0⟩:∃ at0,at0 = (numB n ++ (l.take k).flatMap itemB).length:=⟨_,rfl⟩
   have hat1:(numB n ++ (l.take (k + 1)).flatMap itemB).length = at0 + (numB P.length).length + P.length:=by
    rw [hat0,take_snoc he,List.flatMap_append,List.flatMap_singleton,hit];simp only [List.length_append];omega
   rw [← hat0] at hdr hRd;rw [← hP] at hpl;have hq:numR ((ledB l).drop at0) = some (P.length,(numB P.length).length):=by rw [hdr,List.append_assoc];exact numR_put (by omega) _
   have hpt:((ledB l).drop (at0 + (numB P.length).length)).take P.length = P:=by rw [← List.drop_drop,hdr,List.append_assoc,List.drop_left,List.take_left]
   have hlong:at0 + (numB P.length).length + P.length≤bl:=by
    have h1:((ledB l).drop at0).length = bl - at0:=by rw [List.length_drop,← hbl2.out]
    rw [hdr] at h1;have h2:at0≤bl:=by obtain ⟨_,_,_,_,_,_,h5,_⟩:=hRd;rw [hbl2.out];exact h5
    simp only [List.length_append] at h1;omega
   have mb:=rbytes_yes wr rb _ at0 bl hRd hq (by omega) (by rw [← hbl2.out];omega);rw [hpt] at mb;have hog:=fun w3 (g3:Gr w w3) a3 c3 (h3:BytesAt w3 a3 P) (hc3:a3 = none→c3 = 0) => oget_yes w3 (hE.out.gr g3) i0 a3 c3 e hf (by rw [← hP];exact h3) hc3
   rw [← hP] at hog;obtain ⟨ts,hts⟩:∃ ts,ts = e.tasks:=⟨_,rfl⟩
   obtain ⟨pl,hpl2⟩:∃ pl,pl = P.length:=⟨_,rfl⟩
   rw [← hpl2] at mb hog hpl;replace mb:=Lib.hid mb;replace hog:=Lib.hid hog;replace hpl2:=Lib.hid hpl2;replace hpt:=Lib.hid hpt;replace hq:=Lib.hid hq;replace hat1:=Lib.hid hat1;replace hat0:=Lib.hid hat0;replace hdr:=Lib.hid hdr;replace hlB:=Lib.hid hlB;replace hit:=Lib.hid hit;replace hP:=Lib.hid hP;replace hf:=Lib.hid hf;replace he:=Lib.hid he;replace hlen:=Lib.hid hlen;replace hmap:=Lib.hid hmap;replace hRd:=Lib.hid hRd;replace hlong:=Lib.hid hlong;have hkb:decide ((k:Int) < n) = true:=decide_eq_true (by omega);go_wp2_with fail;refine mb.out.mono ?_;rintro q w3 ⟨a3,c3,rfl,ho3,hR3,g3⟩;have g13:=hg.trans g3;have gw3:Gr w w3:=GrX.all g1 g13 (fun x hx => by rw [List.mem_singleton.1 hx];exact hrb);have hgo:=hog.out w3 gw3 a3 c3 ho3.2.1 ho3.2.2.1;have z3:=g3.size;replace ho3:=Lib.hid ho3;replace hR3:=Lib.hid hR3;replace hgo:=Lib.hid hgo;go_wp2_with fail;refine hgo.out.mono ?_;rintro q w4 ⟨a4,c4,rfl,hok4,g4⟩;have z4:=g4.size;have g14:=g13.gr g4;have hbl3:=owns_lt hown;have hown4:=owns_grx hown (g3.gr g4) (fun x hx => by have:=(hbl3 x hx).2;simp only [List.mem_singleton];omega);have hl63:L'.length + 1≤maxLen:=by rw [hlen.out];unfold maxLen;omega
   have hby:(L'.length + 1) * 96≤140737488355328:=by rw [hlen.out];omega
   have hrec:=recs_alloc EntM.cells_len (w4.alloc (EntM.obj ⟨e,a4,c4⟩)) [⟨e,a4,c4⟩] 73 (List.toArray (e.cells a4 c4)) (by simp);rw [World.size_alloc] at hrec;have n3:w1.heap.size≤w4.heap.size:=by omega
   replace hbl3:=Lib.hid hbl3;replace hok4:=Lib.hid hok4;go_wp2_with (at_builtin;refine wpList_append_one (k:=10) (enc:=EntM.cells) rfl _ _ 38 rfl w1.heap.size 73 i36 _ 96 Tryz.underlying38 hi hz0 hz1 hz2 rfl (by decide) EntM.cells_len EntM.cells_one _ L' rfl ((hown4.alloc _).alloc _) (w4.heap.size + 1) 1 ⟨e,a4,c4⟩ rfl hrec hl63 hby (le_alloc (le_alloc n3 _) _) ?_;intro v1 w5 hown1 hgr1 hat);have gx4:GrX [rb] wr ((w4.alloc (EntM.obj ⟨e,a4,c4⟩)).alloc (EntM.obj ⟨e,a4,c4⟩)):=((g3.gr g4).alloc _).alloc _;have hg2:GrX [rb] w1 w5:=(hg.trans gx4).grown hgr1 (fun g hg' => .inr (hbl3.out g hg').2);have hoks2:∀ y ∈ L' ++ [⟨e,a4,c4⟩],y.ok (fun b => w1.heap.size≤b) w5∧∀ ad,y.a = some ad→y.e.tasks ≠ []→v1.ownBlock ≠ some ad.block:=by
    intro y hy;rcases List.mem_append.1 hy with hy | hy
    ·obtain ⟨o1,o2⟩:=hoks.out y hy;have o3:=o1.grx gx4 (fun x hx => by rw [List.mem_singleton.1 hx];omega);refine ⟨o3.grown hgr1 o2,fun ad ha ht => ?_⟩;rcases hat with hat | hat
     ·rw [hat];exact o2 ad ha ht
     ·rw [hat];intro e1;have e2:((w4.alloc (EntM.obj ⟨e,a4,c4⟩)).alloc (EntM.obj ⟨e,a4,c4⟩)).heap.size = ad.block:=Option.some.inj e1;have e3:=o1.1.1.lt ha ht;have e4:=gx4.size;omega
    ·rw [List.mem_singleton.1 hy];have o1:=(hok4.out.gr (((Gr.refl w4).alloc (EntM.obj ⟨e,a4,c4⟩)).alloc (EntM.obj ⟨e,a4,c4⟩)))
     have o4:=hok4.out;refine ⟨(o1.mono (fun b _ hb => by omega)).grown hgr1 (fun ad ha ht e1 => ?_),fun ad ha ht e1 => ?_⟩
     ·have:=(hbl3.out _ e1).1;have:=o4.1.2 ad ha ht;omega
     ·rcases hat with hat | hat
      ·rw [hat] at e1;have:=(hbl3.out _ e1).1;have:=o4.1.2 ad ha ht;omega
      ·rw [hat] at e1;have e2:((w4.alloc (EntM.obj ⟨e,a4,c4⟩)).alloc (EntM.obj ⟨e,a4,c4⟩)).heap.size = ad.block:=Option.some.inj e1;have e3:=o4.1.1.lt ha ht;simp at e2;omega
   have hR5:RdAt (fun b => b < w1.heap.size) w5 rb (ledB l) (at0 + (numB pl).length + pl):=RdAt.grown (hR3.out.gr ((g4.alloc _).alloc _)) hgr1 (fun g hg' => by have:=(hbl3.out g hg').2;omega);rw [hpl2.out,← hat1.out] at hR5;have hmap2:Ents (L' ++ [(⟨e,a4,c4⟩:EntM)]) = l.take (k + 1):=by rw [take_snoc he.out,← hmap.out];simp [Ents]
   replace hmap2:=Lib.hid hmap2;replace hoks2:=Lib.hid hoks2;replace hR5:=Lib.hid hR5;clear hat hgr1;go_wp2_with fail;go_roundw;case rel => exact ⟨k + 1,L' ++ [⟨e,a4,c4⟩],by omega,by go_num,Lib.hid ⟨by rw [List.length_append,hlen.out];rfl,hmap2.out,hR5.out⟩,hown1,hoks2,hg2⟩
   case measure => simp [intOf];omega
  ·obtain rfl:k = n:=by omega
   have hkb:decide ((k:Int) < k) = false:=decide_eq_false (by omega);have htk:l.take k = l:=List.take_of_length_le (by rw [← hn.out];exact Nat.le_refl _);rw [htk] at hmap hRd;have hre:RdAt (fun b => b < w1.heap.size) wr rb (ledB l) (ledB l).length:=by
    have:numB k ++ l.flatMap itemB = ledB l:=by unfold ledB;rw [← hn.out]
    rw [this] at hRd;exact hRd
   have me:=rend_yes wr rb _ hre;obtain ⟨a',c',hv,hr,hn2,hbb⟩:=recs_of_owns EntM.cells_len hown;have hcap:=owns_cap hown hv;subst hv;rw [hlen] at hcap ⊢;have hfin:∀ w',Gr wr w'→LedW l w (.returned (.tuple #[.slice a' k c',.nilIface])) w':=fun w' g' => by
    have gw:Gr w wr:=GrX.all g1 hg (fun x hx => by rw [List.mem_singleton.1 hx];exact hrb);refine ⟨a',c',L',by rw [← hn.out],hmap,?_,hn2,by rw [← hn.out];exact hcap.1,hcap.2,gw.trans g'⟩;have:=g1.size;have h1:LedM (fun b => w.heap.size≤b) wr a' L':=⟨⟨hr,fun x hx _ => by have:=hbb x hx;omega⟩,fun x hx => ((hoks.out x hx).1).mono fun b _ hb => by omega⟩
    exact h1.gr g'
   replace hfin:=Lib.hid hfin;replace me:=Lib.hid me;replace hre:=Lib.hid hre;replace hmap:=Lib.hid hmap;replace hlen:=Lib.hid hlen;clear hRd hbb hr htk;go_wp2_with fail;refine me.out.mono ?_;rintro q w3 ⟨rfl,g3⟩;go_wp2_with fail;go_ret2;exact hfin.out w3 g3
variable {K0:Nat→Prop}
variable {K0:Nat→Prop}
variable {K0:Nat→Prop}
variable {K0:Nat→Prop}
variable {K0:Nat→Prop}
variable {K0:Nat→Prop}
variable {K0:Nat→Prop}
end Go.Proofs.YteigofaccjaobaaGreatDoor
namespace Go.Proofs.YteigofaccjaobaaGreatDoor
open Go.RowKit
open Go.Maps (Keyed)
abbrev secC (b:List UInt8):Array Value:=(b.flatMap byteC).toArray
abbrev secV (b:List UInt8):Value:=.agg (secC b)
abbrev zeroS:List UInt8:=List.replicate 64 0
theorem bytes_inj:∀ {a b:List UInt8},a.flatMap byteC = b.flatMap byteC→a = b
 | [],[],_ => rfl
 | [],d :: b,h => by cases h
 | c :: a,[],h => by cases h
 | c :: a,d :: b,h => by
  rw [List.flatMap_cons,List.flatMap_cons] at h;injection h with h1 h2
  injection h1 with _ h3
  have h4:c.toNat = d.toNat:=by omega
  rw [UInt8.toNat_inj.1 h4,bytes_inj h2]
theorem secV_inj {a b:List UInt8} (h:secV a = secV b):a = b:=by
 injection h with h1
 exact bytes_inj (by simpa using congrArg Array.toList h1)
theorem secC_size (b:List UInt8):(secC b).size = b.length:=by
 show (b.flatMap byteC).toArray.size = _;rw [List.size_toArray,flat_len byteC_len,Nat.mul_one]
open Classical in
noncomputable def secE (v:Value):Option (DataW Unit × List MemPlace):=if h:∃ b:List UInt8,b.length = 64∧v = secV b then some (.lit (.string (Classical.choose h)),[]) else none
theorem secE_mk {b:List UInt8} (h:b.length = 64):secE (secV b) = some (.lit (.string b),[]):=by
 have hx:∃ b':List UInt8,b'.length = 64∧secV b = secV b':=⟨b,h,rfl⟩
 unfold secE;rw [dif_pos hx];rw [← secV_inj (Classical.choose_spec hx).2]
theorem secE_inv {v:Value} {z:DataW Unit × List MemPlace} (h:secE v = some z):∃ b:List UInt8,b.length = 64∧v = secV b∧z = (.lit (.string b),[]):=by
 unfold secE at h;split at h
 ·rename_i hx;exact ⟨Classical.choose hx,(Classical.choose_spec hx).1,(Classical.choose_spec hx).2,(Option.some.inj h).symm⟩
 ·cases h
abbrev SafeW (w:World) (mb n:Nat) (D:DataW Unit):Prop:=w.ownsMap Tryz.prog 3 secE mb n D
def SafeD (D:DataW Unit) (F:Nat→List UInt8):Prop:=∀ i:Nat,D.atKey (.int .i64 i) (.lit (.string zeroS)) = .lit (.string (F i))
theorem SafeD.nil:SafeD (.map []) (fun _ => zeroS):=fun _ => rfl
theorem str_inj {a b:List UInt8} (h:(DataW.lit (.string a):DataW Unit) = .lit (.string b)):a = b:=by
 cases h
 rfl
theorem Tryz.keyedInt:Keyed Tryz.prog 3:=Maps.int_keyed Tryz.underlying3
theorem int_wf {k:Int} (h:-9223372036854775808≤k∧k≤9223372036854775807):(Lit.int .i64 k).wf = true:=by
 simp [Lit.wf,IntKind.min,IntKind.max,IntKind.signed,IntKind.bits];exact ⟨h.1,by have:=h.2;omega⟩
theorem key_i64 {i:Nat} (h:i < 9223372036854775808):keyOf Tryz.prog 3 (.int .i64 i) = some (.int .i64 i):=Maps.keyOf_int_mk Tryz.underlying3 (int_wf ⟨by omega,by omega⟩)
theorem look_sec {w:World} {mb n:Nat} {D:DataW Unit} {F:Nat→List UInt8} (h:SafeW w mb n D) (hD:SafeD D F) {i:Nat} (hi:i < 9223372036854775808):(Instr.lookup 86 (.map (some mb)) (.int .i64 i) false).run Tryz.prog w = .ok (secV (F i)) w∧(F i).length = 64:=by
 obtain ⟨v,ps,hrun,hv⟩:=h.lookup Tryz.keyedInt Tryz.underlying86 (z:=secV zeroS) (by kernel_rfl) (secE_mk (b:=zeroS) rfl) (key_i64 hi);obtain ⟨b,hb,rfl,hz⟩:=secE_inv hv;injection hz with h1 _
 rw [hD i] at h1;rw [str_inj h1];exact ⟨hrun,hb⟩
def putF (F:Nat→List UInt8) (i:Nat) (b:List UInt8):Nat→List UInt8:=fun j => if j = i then b else F j
theorem SafeD.put {D:DataW Unit} {F:Nat→List UInt8} (h:SafeD D F) (hD:Maps.IsMap D) (i:Nat) (b:List UInt8):SafeD (D.put (.int .i64 i) (.lit (.string b))) (putF F i b):=fun j => by
 unfold putF;by_cases hj:j = i
 ·rw [if_pos hj,hj];exact Maps.atKey_put_same hD (show WideAt.IsKeyLit (.int .i64 (i:Int)) from trivial) _ _
 ·rw [if_neg hj,Maps.atKey_put_other (fun h => hj (by injection h with _ h2;omega))];exact h j
theorem store_sec {w:World} {mb n:Nat} {D:DataW Unit} {F:Nat→List UInt8} (h:SafeW w mb n D) (hD:SafeD D F) (hn:n < maxLen) {i:Nat} (hi:i < 9223372036854775808) {b:List UInt8} (hb:b.length = 64):∃ w',(Instr.mapUpdate 86 (.map (some mb)) (.int .i64 i) (secV b)).run Tryz.prog w = .ok () w'∧SafeW w' mb (n + 1) (D.put (.int .i64 i) (.lit (.string b)))∧SafeD (D.put (.int .i64 i) (.lit (.string b))) (putF F i b)∧GrX [mb] w w':=by
 obtain ⟨w',h1,h2,h3⟩:=h.update Tryz.keyedInt Tryz.underlying86 hn (key_i64 hi) (secE_mk hb);exact ⟨w',h1,h2,hD.put h.isMap i b,⟨h3.os,h3.tape,h3.output,h3.size,fun k hk hm => h3.block k hk (fun e => hm (by injection e with e;rw [e];simp))⟩⟩
section
variable {H:Type} {P:Program} {k:TypeId} {R:Value→Option (DataW H × List MemPlace)} {w w':World} {b n:Nat} {D:DataW H}
theorem owns_mgrx {S:List Nat} (h:w.ownsMap P k R b n D) (g:GrX S w w') (hS:b ∉ S):w'.ownsMap P k R b n D:=by
 have hl:=h.lt;obtain ⟨es,clock,hb,q⟩:=h;exact ⟨es,clock,by rw [g.block b hl hS];exact hb,q⟩
end
end Go.Proofs.YteigofaccjaobaaGreatDoor
namespace Go.Proofs.YteigofaccjaobaaGreatDoor
open Go.RowKit
structure DskV where
 n:Nat
 F:Nat→List UInt8
 C:List (Nat × List UInt8)
 lost:Bool
def nowC (C:List (Nat × List UInt8)) (i:Nat) (s:List UInt8):List UInt8:=C.foldl (fun s x => if x.1 = i then x.2 else s) s
def DskV.now (d:DskV) (i:Nat):List UInt8:=nowC d.C i (d.F i)
theorem nowC_snoc (C:List (Nat × List UInt8)) (x:Nat × List UInt8) (i:Nat) (s:List UInt8):nowC (C ++ [x]) i s = if x.1 = i then x.2 else nowC C i s:=by unfold nowC;rw [List.foldl_append];rfl
def keepF (F:Nat→List UInt8) (x:Nat × List UInt8) (k:Nat):Nat→List UInt8:=putF F x.1 (x.2.take k ++ (F x.1).drop k)
def flushF (F:Nat→List UInt8) (C:List (Nat × List UInt8)):Nat→List UInt8:=C.foldl (fun F x => keepF F x 64) F
def keptN (keep:Nat) (torn:Int) (k:Nat):Nat:=if keep.testBit (k % 64) = true then (if (k:Int) = torn then 32 else 64) else 0
def crashF (keep:Nat) (torn:Int):Nat→(Nat→List UInt8)→List (Nat × List UInt8)→Nat→List UInt8
 | _,F,[] => F
 | k,F,x :: C => crashF keep torn (k + 1) (keepF F x (keptN keep torn k)) C
def DskV.write (d:DskV) (i:Nat) (b:List UInt8):DskV:={d with C:=d.C ++ [(i,b)]}
def DskV.flush (d:DskV):DskV:={d with F:=flushF d.F d.C,C:=[]}
def DskV.crash (d:DskV) (keep:Nat) (torn:Int):DskV:={d with F:=crashF keep torn 0 d.F d.C,C:=[]}
def DskV.lose (d:DskV):DskV:={d with C:=[],lost:=true}
def newD (n:Nat):DskV:=⟨n,fun _ => zeroS,[],false⟩
structure DskV.ok (d:DskV):Prop where
 n0:1≤d.n
 n1:d.n≤1024
 f:∀ i,(d.F i).length = 64
 c:∀ x ∈ d.C,x.1 < d.n∧x.2.length = 64
theorem keep_len {F:Nat→List UInt8} {x:Nat × List UInt8} (hF:∀ i,(F i).length = 64) (hx:x.2.length = 64) (k:Nat) (hk:k≤64):∀ i,(keepF F x k i).length = 64:=fun i => by
 unfold keepF putF;split
 ·rw [List.length_append,List.length_take,List.length_drop,hF,hx];omega
 ·exact hF i
theorem kept_le (keep:Nat) (torn:Int) (k:Nat):keptN keep torn k≤64:=by
 unfold keptN;split
 ·split <;> omega
 ·omega
theorem flush_len:∀ (C:List (Nat × List UInt8)) (F:Nat→List UInt8),(∀ i,(F i).length = 64)→(∀ x ∈ C,x.2.length = 64)→∀ i,(flushF F C i).length = 64
 | [],_,hF,_ => hF
 | x :: C,F,hF,hC => flush_len C (keepF F x 64) (keep_len hF (hC x List.mem_cons_self) 64 (Nat.le_refl _)) fun y hy => hC y (List.mem_cons_of_mem _ hy)
theorem crash_len (keep:Nat) (torn:Int):∀ (C:List (Nat × List UInt8)) (k:Nat) (F:Nat→List UInt8),(∀ i,(F i).length = 64)→(∀ x ∈ C,x.2.length = 64)→∀ i,(crashF keep torn k F C i).length = 64
 | [],_,_,hF,_ => hF
 | x :: C,k,_,hF,hC => crash_len keep torn C (k + 1) _ (keep_len hF (hC x List.mem_cons_self) _ (kept_le _ _ _)) fun y hy => hC y (List.mem_cons_of_mem _ hy)
theorem nowC_len {i:Nat}:∀ {C:List (Nat × List UInt8)} {s:List UInt8},s.length = 64→(∀ x ∈ C,x.2.length = 64)→(nowC C i s).length = 64
 | [],_,hs,_ => hs
 | x :: C,s,hs,hC => by
  have h2:∀ y ∈ C,y.2.length = 64:=fun y hy => hC y (List.mem_cons_of_mem _ hy)
  show (nowC C i (if x.1 = i then x.2 else s)).length = 64;by_cases hx:x.1 = i
  ·rw [if_pos hx];exact nowC_len (hC x List.mem_cons_self) h2
  ·rw [if_neg hx];exact nowC_len hs h2
theorem now_len {d:DskV} (h:d.ok) (i:Nat):(d.now i).length = 64:=nowC_len (h.f i) fun x hx => (h.c x hx).2
theorem DskV.ok.write {d:DskV} (h:d.ok) {i:Nat} {b:List UInt8} (hi:i < d.n) (hb:b.length = 64):(d.write i b).ok:=⟨h.n0,h.n1,h.f,fun x hx => by
 rcases List.mem_append.1 hx with hx | hx
 ·exact h.c x hx
 ·rw [List.mem_singleton.1 hx];exact ⟨hi,hb⟩⟩
theorem DskV.ok.flush {d:DskV} (h:d.ok):d.flush.ok:=⟨h.n0,h.n1,flush_len _ _ h.f fun x hx => (h.c x hx).2,fun x hx => by cases hx⟩
theorem DskV.ok.crash {d:DskV} (h:d.ok) (keep:Nat) (torn:Int):(d.crash keep torn).ok:=⟨h.n0,h.n1,crash_len keep torn _ _ _ h.f fun x hx => (h.c x hx).2,fun x hx => by cases hx⟩
theorem DskV.ok.lose {d:DskV} (h:d.ok):d.lose.ok:=⟨h.n0,h.n1,h.f,fun x hx => by cases hx⟩
theorem newD_ok {n:Nat} (h0:1≤n) (h1:n≤1024):(newD n).ok:=⟨h0,h1,fun _ => rfl,fun x hx => by cases hx⟩
def pad (b:List UInt8):List UInt8:=(b ++ zeroS).take 64
theorem pad_len (b:List UInt8):(pad b).length = 64:=by
 unfold pad;rw [List.length_take,List.length_append,List.length_replicate];omega
theorem pad_of {b:List UInt8} (h:b.length = 64):pad b = b:=by
 unfold pad;rw [← h,List.take_left]
abbrev wrC (x:Nat × List UInt8):List Value:=.int .i64 x.1 :: (pad x.2).flatMap byteC
theorem wrC_len (x:Nat × List UInt8):(wrC x).length = 65:=by
 show ((pad x.2).flatMap byteC).length + 1 = 65;rw [flat_len byteC_len,pad_len]
theorem wrC_one (x:Nat × List UInt8):∀ u ∈ wrC x,u.oneCell' = true:=by
 intro u hu;rcases List.mem_cons.1 hu with rfl | hu
 ·rfl
 ·obtain ⟨d,_,hd⟩:=List.mem_flatMap.1 hu;exact byteC_one d u hd
theorem Tryz.infoWr:((Tryz.prog.info? 146).map fun i => (i.zero,i.size,i.bytes)) = some (some (.agg (wrC (0,zeroS)).toArray),65,72):=by kernel_rfl
structure DskM where
 d:DskV
 mb:Nat
 m:Nat
 D:DataW Unit
 ca:Option Addr
 cc:Nat
 wr:Int
abbrev DskM.row (M:DskM):Array Value:=#[.int .i64 M.d.n,.map (some M.mb),.slice M.ca M.d.C.length M.cc,.int .i64 M.wr,.bool M.d.lost]
end Go.Proofs.YteigofaccjaobaaGreatDoor
