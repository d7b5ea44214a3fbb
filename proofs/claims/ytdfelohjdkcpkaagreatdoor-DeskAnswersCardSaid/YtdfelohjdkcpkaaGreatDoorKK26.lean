/- order.Last. Printed by gen_y4.py. -/
import Derived.Test.YtdfelohjdkcpkaaGreatDoorKK25
import Derived.StillTailTactics
import Derived.Deep.OwnRows
import Derived.Deep.Light
set_option maxRecDepth 100000
set_option maxHeartbeats 6400000
namespace Go.Proofs.YtdfelohjdkcpkaaGreatDoor
open Go.RowKit
open Go.Maps (Keyed)
def EG (e:Du):Prop:=(-9223372036854775808≤e.cl∧e.cl≤9223372036854775807)∧(-9223372036854775808≤e.nu∧e.nu≤9223372036854775807)∧(-9223372036854775808≤e.kd∧e.kd≤9223372036854775807)
section
variable {H:Type} {P:Program} {k:TypeId} {R:Value→Option (DataW H × List MemPlace)} {w w':World} {b n:Nat} {D:DataW H}
theorem NX (h:w.ownsMap P k R b n D) (g:Gr w w'):w'.ownsMap P k R b n D:=by
 have hl:=h.lt;obtain ⟨es,clock,hb,q⟩:=h;exact ⟨es,clock,by rw [g.block b hl];exact hb,q⟩
end
abbrev IY (w:World) (mb n:Nat) (D:DataW Unit):Prop:=w.ownsMap Tryz.prog 3 (plainElem Tryz.prog 3) mb n D
theorem OV {a b:Int} (h:(DataW.lit (.int .i64 a):DataW Unit) = .lit (.int .i64 b)):a = b:=by
 cases h
 rfl
theorem Kf {w:World} {mb n:Nat} {D:DataW Unit} {l:List Du} (h:IY w mb n D) (hD:Fk D l) {x:Int} (hw:-9223372036854775808≤x∧x≤9223372036854775807):∃ v:Int,(Instr.lookup 143 (.map (some mb)) (.int .i64 x) true).run Tryz.prog w = .ok (.tuple #[.int .i64 v,.bool (C3 l x).isSome]) w∧∀ m,C3 l x = some m→v = m:=by
 obtain ⟨v,ps,hrun,hv⟩:=h.look_ok Tryz.keyedInt Tryz.underlying143 (z:=.int .i64 0) (by kernel_rfl) (plainElem_int Tryz.underlying3 (by decide)) (B9 hw);obtain ⟨c,rfl,hc,_⟩:=plainElem_int_inv Tryz.underlying3 hv;simp only [Prod.mk.injEq] at hc;have h1:=hD x;refine ⟨c,?_,fun m hm => ?_⟩
 ·cases hx:C3 l x with
  | none => rw [hx] at h1;rw [hrun,show Maps.has D (.int .i64 x) = false from h1];rfl
  | some m => rw [hx] at h1;rw [hrun,h1.1];rfl
 ·rw [hm] at h1;have h2:=h1.2 (.lit (.int .i64 0));exact OV (hc.1.symm.trans h2)
theorem Ij {w:World} {mb n:Nat} {D:DataW Unit} (h:IY w mb n D) (hn:n < maxLen) {x y:Int} (hw:-9223372036854775808≤x∧x≤9223372036854775807) (hy:-9223372036854775808≤y∧y≤9223372036854775807):∃ w',(Instr.mapUpdate 143 (.map (some mb)) (.int .i64 x) (.int .i64 y)).run Tryz.prog w = .ok () w'∧IY w' mb (n + 1) (D.put (.int .i64 x) (.lit (.int .i64 y)))∧Aw [mb] w w':=by
 obtain ⟨w',h1,h2,h3⟩:=h.update Tryz.keyedInt Tryz.underlying143 hn (B9 hw) (plainElem_int Tryz.underlying3 (Oe hy));exact ⟨w',h1,h2,⟨h3.os,h3.tape,h3.output,h3.size,fun k hk hm => h3.block k hk (fun e => hm (by injection e with e;rw [e];simp))⟩⟩
theorem Od (x:Int):WideAt.IsKeyLit (.int .i64 x):=trivial
def LastP (l:List Du) (w:World) (e:Ending) (w':World):Prop:=∃ (D:DataW Unit) (mb n:Nat),e = .returned (.map (some mb))∧IY w' mb n D∧Fk D l∧Gr w w'
theorem N8 (a:Option Addr) (c:Nat) (L:List At) (w:World) (h:Cc Any w a L) (hi:∀ x ∈ L,EG x.e) (hm:L.length≤1000000) :
 Calls Tryz.prog 67 #[.slice a L.length c] w (LastP (L.map (·.e)) w):=by
 have hmm:=@run_makeMap_plain;obtain ⟨W,hW⟩:=zE (w.alloc (.map #[] 0));have gW:Gr w W:=by rw [hW];exact (Gr.refl w).alloc _
 have hM:IY W w.heap.size 0 (.map []):=by rw [hW];exact World.ownsMap_made _ _ _ _
 refine B0 ?_ hW hM h hi;clear hW hM h hi;intro hW hM h hi;go_enter Tryz.func67,Tryz.ntmps67;go_upto_region 2 with fail
 clear hmm;rw [← hW.out];go_wp2_with fail;go_loopw [11] (fun iv wr => ∃ (k:Nat) (D:DataW Unit),k≤L.length∧iv = .int .i64 k∧Hid (IY wr w.heap.size k D∧Fk D ((L.take k).map (·.e)))∧Gr w wr) (fun iv _ => L.length - (intOf iv).toNat);case atStart => exact ⟨0,.map [],Nat.zero_le _,rfl,Lib.hid ⟨hM.out,Fk.nil⟩,gW⟩
 case round =>
  obtain ⟨k,D,hk,rfl,hI,hg⟩:=hrel;obtain ⟨hMk,hDk⟩:=hI.out;clear hI;obtain ⟨wo,rfl⟩:∃ wo:World,wo = wr:=⟨wr,rfl⟩
  by_cases hlt:k < L.length
  ·obtain ⟨x,hx⟩:=Ac L k hlt;obtain ⟨b,off,hag,hb,_,d0,d1,d2,d3,d4,d5,d6,d7,d8,d9⟩:=(h.out.gr hg).get hx;subst hag;obtain ⟨x1,x2,x3⟩:=hi.out x (AL hx);have tk:(L.take (k + 1)).map (·.e) = (L.take k).map (·.e) ++ [x.e]:=by rw [Ae hx,List.map_append];rfl
   obtain ⟨eb,heb⟩:=zE wo.heap.size;obtain ⟨wa,hwa⟩:=zE (wo.alloc (.cells #[.int .i64 x.e.cl,.int .i64 x.e.nu,.int .i64 x.e.kd,.int .i64 x.e.id,.int .i64 x.e.srv.k,.int .i64 x.e.srv.q,.int .i64 x.e.srv.t,.int .i64 x.e.po,.slice x.a x.e.tasks.length x.c,.int .i64 x.e.at_] 137));have ga:Gr wo wa:=by rw [hwa];exact (Gr.refl _).alloc _
   have hXa:Ag wa eb #[.int .i64 x.e.cl,.int .i64 x.e.nu,.int .i64 x.e.kd,.int .i64 x.e.id,.int .i64 x.e.srv.k,.int .i64 x.e.srv.q,.int .i64 x.e.srv.t,.int .i64 x.e.po,.slice x.a x.e.tasks.length x.c,.int .i64 x.e.at_] 137:=by rw [hwa,heb];exact Ag.new _ _ _
   have hMa:=NX hMk ga;have hiM:=hMa.isMap;obtain ⟨v,hlk,hvm⟩:=Kf hMa hDk x1;obtain ⟨y0,y1,y2,y3,y4,y5,y6,y7,y8,y9⟩:=hXa.c10;refine Br ?_ hx heb hwa hXa hMk hMa tk hiM;clear hx heb hwa hXa hMk hMa tk hiM;intro hx heb hwa hXa hMk hMa tk hiM;go_upto_region 5 with fail
   rw [← heb.out,← hwa.out];clear d0 d1 d2 d3 d4 d5 d6 d7 d8 d9;cases hmx:C3 ((L.take k).map (·.e)) x.e.cl with
   | none =>
    rw [hmx] at hlk;dsimp only [Option.isSome] at hlk;clear hvm;replace hmx:=zH hmx;obtain ⟨w5,hrun,hM5,gx5⟩:=Ij hMa.out (by unfold maxLen;omega) x1 x2;have hD5:Fk (D.put (.int .i64 x.e.cl) (.lit (.int .i64 x.e.nu))) ((L.take (k + 1)).map (·.e)):=by rw [tk.out];exact hDk.put hiM.out (Od _) (fun m hm => by rw [hmx.out] at hm;cases hm)
    have g5:Gr w w5:=gx5.all (hg.trans ga) (fun y hy => by rw [List.mem_singleton.1 hy];exact Nat.le_refl _);refine B0 ?_ hDk hM5 hD5 gx5;clear hDk hM5 hD5 gx5;intro hDk hM5 hD5 gx5;go_wp2_with fail;go_roundw;case rel => exact ⟨k + 1,_,by omega,by go_num,Lib.hid ⟨hM5.out,hD5.out⟩,g5⟩
    case measure => simp [intOf];omega
   | some m =>
    rw [hmx] at hlk;dsimp only [Option.isSome] at hlk;have hvx:=hvm m hmx;clear hvm;by_cases hlt2:m < x.e.nu
    ·have tv:v < x.e.nu:=by rw [hvx];exact hlt2
     have tvb:decide (v < x.e.nu) = true:=decide_eq_true tv;replace hvx:=zH hvx;replace hmx:=zH hmx;obtain ⟨w5,hrun,hM5,gx5⟩:=Ij hMa.out (by unfold maxLen;omega) x1 x2;have hD5:Fk (D.put (.int .i64 x.e.cl) (.lit (.int .i64 x.e.nu))) ((L.take (k + 1)).map (·.e)):=by rw [tk.out];exact hDk.put hiM.out (Od _) (fun m hm => by rw [hmx.out] at hm;cases hm;exact hlt2)
     have g5:Gr w w5:=gx5.all (hg.trans ga) (fun y hy => by rw [List.mem_singleton.1 hy];exact Nat.le_refl _);refine B0 ?_ hDk hM5 hD5 gx5;clear hDk hM5 hD5 gx5;intro hDk hM5 hD5 gx5;go_wp2_with fail;go_roundw;case rel => exact ⟨k + 1,_,by omega,by go_num,Lib.hid ⟨hM5.out,hD5.out⟩,g5⟩
     case measure => simp [intOf];omega
    ·have tv:¬ v < x.e.nu:=by rw [hvx];exact hlt2
     have tvb:decide (v < x.e.nu) = false:=decide_eq_false tv;have hD5:Fk D ((L.take (k + 1)).map (·.e)):=by rw [tk.out];exact hDk.same hmx hlt2
     refine B0 ?_ hDk hD5 hvx hmx;clear hDk hD5 hvx hmx;intro hDk hD5 hvx hmx;go_wp2_with fail;go_roundw;case rel => exact ⟨k + 1,D,by omega,by go_num,Lib.hid ⟨hMa.out.mono (by omega),hD5.out⟩,hg.trans ga⟩
     case measure => simp [intOf];omega
  ·have hkl:k = L.length:=by omega
   have ti:¬ (k:Int) < L.length:=by omega
   have tib:decide ((k:Int) < L.length) = false:=decide_eq_false ti;have hall:L.take k = L:=List.take_of_length_le (by omega);rw [hall] at hDk;refine B0 ?_ hMk hDk hall hkl;clear hMk hDk hall hkl;intro hMk hDk hall hkl;go_wp2_with fail;go_ret;exact ⟨D,_,k,rfl,hMk.out,hDk.out,hg⟩
end Go.Proofs.YtdfelohjdkcpkaaGreatDoor
namespace Go.Proofs.YtdfelohjdkcpkaaGreatDoor
open Go.RowKit
abbrev Ei (r:Int × Int):List Value:=[.int .i64 r.1,.int .i64 r.2]
theorem Cf (r:Int × Int):(Ei r).length = 2:=rfl
theorem JV (r:Int × Int):∀ u ∈ Ei r,u.oneCell' = true:=by
 intro u hu;simp at hu;rcases hu with rfl | rfl <;> rfl
theorem Tryz.infoRes:(Tryz.prog.info? 34).map (fun i => (i.zero,i.size,i.bytes)) = some (some (.agg #[.int .i64 0,.int .i64 0]),2,16):=by kernel_rfl
theorem Ep {w w1 wf:World} {tb B:Nat} {cs:Array Value} {T:TM} (hB:tb < B) (hb:Ag w tb cs 27) (hc:cs.size = 4) (hT:Av (fun k => B≤k) w T) (hw:wf = (((w.setCell ⟨tb,0,none⟩ (.slice T.an T.N.length T.cn)).setCell ⟨tb,1,none⟩ (.slice T.ag T.G.length T.cg)).setCell ⟨tb,2,none⟩ (.int .i64 T.last)).setCell ⟨tb,3,none⟩ (.int .i64 T.now)) (g:Gr w1 w) (h1:w1.heap.size≤tb):Ag wf tb T.row 27∧Av (fun k => B≤k) wf T∧Aw [tb] w wf∧Gr w1 wf:=by
 have gx:Aw [tb] w wf:=by
  rw [hw];exact ((((Aw.refl _ _).set (.inl (by simp)) _).set (.inl (by simp)) _).set (.inl (by simp)) _).set (.inl (by simp)) _
 refine ⟨?_,hT.grx gx (fun y hy hk => by simp at hy;omega),gx,gx.all g (fun y hy => by simp at hy;omega)⟩;have h2:=(((hb.set 0 (.slice T.an T.N.length T.cn)).set 1 (.slice T.ag T.G.length T.cg)).set 2 (.int .i64 T.last)).set 3 (.int .i64 T.now);rw [hw];obtain ⟨l⟩:=cs
 match l,hc with
 | [_,_,_,_],_ => exact h2
abbrev Cb (L:List At):List (Int × Int):=FX ⟨[],[],0,0⟩ ((L.map (·.e)).map Eh)
theorem Ev (L:List At):(Cb L).length = L.length:=by rw [NO,List.length_map,List.length_map]
def Cp (L:List At):Ab:=Hn ((L.map (·.e)).map Eh)
theorem GY (L:List At) (x:At):Cp (L ++ [x]) = ((Cp L).apply (Eh x.e)).1:=by
 unfold Cp;rw [List.map_append,List.map_append];exact Li _ _
theorem Is (L:List At) (x:At):Cb (L ++ [x]) = Cb L ++ [((Cp L).apply (Eh x.e)).2]:=by
 unfold Cb;rw [List.map_append,List.map_append];exact Mw _ _ _
theorem Fa (L:List At):Bq L.length (Cp L):=by
 have:=Mp ((L.map (·.e)).map Eh);rw [List.length_map,List.length_map] at this;exact this
def Pc (L:List At) (w:World) (e:Ending) (w':World):Prop:=∃ (T:TM) (ra:Option Addr) (rc:Nat),e = .returned (.tuple #[.agg T.row,.slice ra (Cb L).length rc])∧T.v = Cp L∧w'.ownsRow w.heap.size 34 2 (.slice ra (Cb L).length rc) (Cb L).length ((Cb L).flatMap Ei)∧Av (fun b => w.heap.size≤b) w' T∧Gr w w'
theorem MK (w:World) (B:Nat):w.ownsRow B 34 2 (.slice none 0 0) ([]:List (Int × Int)).length (([]:List (Int × Int)).flatMap Ei):=⟨rfl,.inl ⟨rfl,rfl⟩⟩
theorem Kq {G:List Nat} {E:Nat→Addr} (a:Option Addr) (c:Nat) (L:List At) (w:World) (hE:CK G E w) (i0:9 ∈ G) (i1:11 ∈ G) (i3:6 ∈ G) (i4:10 ∈ G) (h:Cc Any w a L) (hi:∀ x ∈ L,EG x.e) (hm:L.length≤100000) :
 Calls Tryz.prog 63 #[.slice a L.length c] w (Pc L w):=by
 obtain ⟨i16,hi6,hz0,hz1,hz2⟩:=info_parts Tryz.infoRes;obtain ⟨W,hW⟩:=zE ((w.alloc (.cells #[.slice none 0 0,.slice none 0 0,.int .i64 0,.int .i64 0] 27)).alloc (.cells #[.slice none 0 0,.slice none 0 0,.int .i64 0,.int .i64 0] 27));have gW:Gr w W:=by rw [hW];exact ((Gr.refl w).alloc _).alloc _
 have hRW:Ag W w.heap.size #[.slice none 0 0,.slice none 0 0,.int .i64 0,.int .i64 0] 27:=by rw [hW];exact (Ag.new w _ _).alloc _
 have hTW:Ag W (w.heap.size + 1) #[.slice none 0 0,.slice none 0 0,.int .i64 0,.int .i64 0] 27:=by
  rw [hW];exact Ag.n1
 refine DT ?_ hW hRW hTW h hi;clear hW hRW hTW h hi;intro hW hRW hTW h hi;go_enter Tryz.func63,Tryz.ntmps63;go_upto_region 2 with fail
 rw [← hW.out];go_wp2_with fail;go_loopw [5,12] (fun sv iv wr => ∃ (k:Nat) (T:TM),k≤L.length∧iv = .int .i64 k∧Hid (Ag wr (w.heap.size + 1) T.row 27∧Av (fun b => w.heap.size + 2≤b) wr T∧T.v = Cp (L.take k)∧Ag wr w.heap.size #[.slice none 0 0,.slice none 0 0,.int .i64 0,.int .i64 0] 27∧wr.ownsRow w.heap.size 34 2 sv (Cb (L.take k)).length ((Cb (L.take k)).flatMap Ei))∧Gr w wr) (fun _ iv _ => L.length - (intOf iv).toNat);case atStart => exact ⟨0,⟨[],none,0,[],none,0,0,0⟩,Nat.zero_le _,rfl,Lib.hid ⟨hTW.out,Av.none _ _ _ _,rfl,hRW.out,MK _ _⟩,gW⟩
 case round =>
  obtain ⟨k,T,hk,rfl,hI,hg⟩:=hrel;obtain ⟨hTb,hTt,hTv,hRb,hO⟩:=hI.out;clear hI;obtain ⟨wo,rfl⟩:∃ wo:World,wo = wr:=⟨wr,rfl⟩
  obtain ⟨Rs,hRs⟩:=zE (Cb (L.take k));rw [← hRs] at hO;have hRl:Rs.length = k:=by rw [hRs,Ev,List.length_take];omega
  obtain ⟨ra,rc,e5,hro,-,-⟩:=Af Cf hO;subst e5;by_cases hlt:k < L.length
  ·obtain ⟨x,hx⟩:=Ac L k hlt;obtain ⟨b,off,hag,hb,_,d0,d1,d2,d3,d4,d5,d6,d7,d8,d9⟩:=(h.out.gr hg).get hx;subst hag;obtain ⟨x1,x2,x3⟩:=hi.out x (AL hx);have hxo:=(h.out.gr hg).2 x (AL hx);have tk:L.take (k + 1) = L.take k ++ [x]:=Ae hx;have hS:Bq (L.take k).length T.v:=by rw [hTv];exact Fa _
   have hkl:(L.take k).length≤100000:=by rw [List.length_take];omega
   obtain ⟨eb,heb⟩:=zE wo.heap.size;obtain ⟨wa,hwa⟩:=zE (wo.alloc (.cells #[.int .i64 x.e.cl,.int .i64 x.e.nu,.int .i64 x.e.kd,.int .i64 x.e.id,.int .i64 x.e.srv.k,.int .i64 x.e.srv.q,.int .i64 x.e.srv.t,.int .i64 x.e.po,.slice x.a x.e.tasks.length x.c,.int .i64 x.e.at_] 137));have ga:Gr wo wa:=by rw [hwa];exact (Gr.refl _).alloc _
   have hXa:Ag wa eb #[.int .i64 x.e.cl,.int .i64 x.e.nu,.int .i64 x.e.kd,.int .i64 x.e.id,.int .i64 x.e.srv.k,.int .i64 x.e.srv.q,.int .i64 x.e.srv.t,.int .i64 x.e.po,.slice x.a x.e.tasks.length x.c,.int .i64 x.e.at_] 137:=by rw [hwa,heb];exact Ag.new _ _ _
   have gAa:=hg.trans ga;have hTa:=hTb.gr ga;have hta:=hTt.gr ga;have hc:=Nt T wa (hE.gr gAa) i0 i1 i3 i4 hta.any hS (by omega) (Eh x.e) x.a x.c x3 ((hxo.gr ga).1.1) hxo.2.1 hxo.2.2.2.2;obtain ⟨V,hV⟩:=zE (T.v.apply (Eh x.e));rw [← hV] at hc;obtain ⟨t0,t1,t2,t3⟩:=hTa.c4;obtain ⟨y0,y1,y2,y3,y4,y5,y6,y7,y8,y9⟩:=hXa.c10;refine Br ?_ hx heb hwa hXa hTb hTt hTv hRb;clear hx heb hwa hXa hTb hTt hTv hRb;intro hx heb hwa hXa hTb hTt hTv hRb;refine Br ?_ hO hRs hTa hta hc hV hxo tk;clear hO hRs hTa hta hc hV hxo tk;intro hO hRs hTa hta hc hV hxo tk;replace hS:=zH hS;go_upto_region 6 with fail
   rw [← heb.out,← hwa.out];clear d0 d1 d2 d3 d4 d5 d6 d7 d8 d9;go_wp2_with fail;refine hc.out.mono ?_;rintro e wb ⟨U,rfl,hU,hUo,gb⟩;clear t0 t1 t2 t3 y0 y1 y2 y3 y4 y5 y6 y7 y8 y9;obtain ⟨V1,vc,vi⟩:=V;dsimp only at hU ⊢;have hUt:=hUo.at;clear hUo;obtain ⟨ub,hub⟩:=zE wb.heap.size;obtain ⟨wq,hwq⟩:=zE ((wb.alloc (.cells U.row 27)).alloc (.cells #[.int .i64 vc,.int .i64 vi] 34));have gq:Gr wb wq:=by rw [hwq];exact ((Gr.refl _).alloc _).alloc _
   have hUb:Ag wq ub U.row 27:=by rw [hwq,hub];exact (Ag.new _ _ _).alloc _
   have hRq:Ag wq (ub + 1) #[.int .i64 vc,.int .i64 vi] 34:=by
    rw [hwq,hub];have:=Ag.new (wb.alloc (.cells U.row 27)) #[.int .i64 vc,.int .i64 vi] 34;rw [zL] at this;exact this
   have gaq:=(ga.trans gb).trans gq;have gAq:=hg.trans gaq;have hTq:=hTb.out.gr gaq;have hUq:=hUt.gr gq;have hRbq:=hRb.out.gr gaq;have hOq:=As hO.out gaq;have zub:wa.heap.size≤wb.heap.size:=gb.size;have zua:wo.heap.size≤wa.heap.size:=ga.size;have zto:=hTb.out.lt;have zrl:=fun y hy => (Ar hO.out y hy).1
   replace hRl:=zH hRl;have hRk:Rs.length≤100000:=by have:=hRl.out;omega
   have zu1:=hUb.lt;have zu2:=hRq.lt;have zu3:=hTq.lt;have n1:ub ≠ w.heap.size + 1:=by omega
   have n2:ub + 1 ≠ w.heap.size + 1:=by omega
   have n1s:w.heap.size + 1 ≠ ub:=by omega
   have n2s:w.heap.size + 1 ≠ ub + 1:=by omega
   have gz:Gr wq (wq.alloc (.cells #[.int .i64 vc,.int .i64 vi] 34)).drew:=((Gr.refl wq).alloc _).drew;have hOz:=As hOq gz;have hsz:Al 2 Ei (wq.alloc (.cells #[.int .i64 vc,.int .i64 vi] 34)).drew (some ⟨wq.heap.size,0,none⟩) [(vc,vi)]:=(AC.grx (K:=Any) ⟨An Cf wq [(vc,vi)] 34 #[.int .i64 vc,.int .i64 vi] (by simp),fun _ _ _ => trivial⟩ ((Gr.refl _).drew.x []) (fun _ h => by cases h)).1;have hbz:w.heap.size≤(wq.alloc (.cells #[.int .i64 vc,.int .i64 vi] 34)).drew.heap.size:=(gAq.trans gz).size;have tf:=fun i => hTq.free i
   obtain ⟨u0,u1,u2,u3⟩:=hUb.c4;obtain ⟨r0,r1⟩:=hRq.c2;obtain ⟨t0,t1,t2,t3⟩:=hTq.c4;refine Br ?_ hub hwq hUb hRq hTq hUq hRbq hOq;clear hub hwq hUb hRq hTq hUq hRbq hOq;intro hub hwq hUb hRq hTq hUq hRbq hOq;refine Br ?_ hUt hU zub zua zto zrl hOz hsz;clear hUt hU zub zua zto zrl hOz hsz;intro hUt hU zub zua zto zrl hOz hsz;go_upto_region 7 with fail
   rw [← hub.out,← hwq.out];go_region_held3 (fun w' => w'.cell? ⟨ub,0,none⟩ = some (.slice U.an U.N.length U.cn)∧w'.cell? ⟨ub,1,none⟩ = some (.slice U.ag U.G.length U.cg)∧w'.cell? ⟨ub,2,none⟩ = some (.int .i64 U.last)∧w'.cell? ⟨ub,3,none⟩ = some (.int .i64 U.now)∧w'.cell? ⟨ub + 1,0,none⟩ = some (.int .i64 vc)∧w'.cell? ⟨ub + 1,1,none⟩ = some (.int .i64 vi)) (simp (maxDischargeDepth:=8) [go_sem, *])
    (first
     | (refine Ba (k:=2) (enc:=Ei) (by rfl) _ _ 49 (by rfl) w.heap.size 34 i16 _ 16 Tryz.underlying49 hi6 hz0 hz1 hz2 rfl (by decide) Cf JV (.slice ra Rs.length rc) Rs (by rfl) hOz.out ⟨wq.heap.size,0,none⟩ 1 1 [(vc,vi)] rfl (by rfl) hsz.out (by unfold maxLen;omega) (by omega) hbz ?_;intro v9 w9 hown9 hgr9;obtain ⟨a9,c9,e9,-,-,-⟩:=Af Cf hown9;subst e9;have gx9:Aw (Value.slice ra Rs.length rc).ownBlock.toList (wq.alloc (.cells #[.int .i64 vc,.int .i64 vi] 34)).drew w9:=⟨hgr9.os,hgr9.tape,hgr9.output,hgr9.size,fun k hk hn => hgr9.block k hk (fun e => hn (by simp [← e]))⟩;have hin9:∀ y,y ∈ (Value.slice ra Rs.length rc).ownBlock.toList→(Value.slice ra Rs.length rc).ownBlock = some y:=fun y hy => (by simpa using hy);have hU9:=(hUb.out.gr gz).grx gx9 (fun hm => Aj hOz.out (hUb.out.gr gz) (by decide) (hin9 _ hm));have hT9:=(hTq.out.gr gz).grx gx9 (fun hm => Aj hOz.out (hTq.out.gr gz) (by decide) (hin9 _ hm));have hR9:=(hRq.out.gr gz).grx gx9 (fun hm => by have h1:=zrl.out _ (hin9 _ hm);have h2:=hub.out;have h3:=zub.out;have h4:=zua.out;omega);have hRb9:=(hRbq.out.gr gz).grx gx9 (fun hm => Aj hOz.out (hRbq.out.gr gz) (by decide) (hin9 _ hm));have hUt9:=(hUq.out.gr gz).grx gx9 (fun y hy hk => by have h1:=zrl.out _ (hin9 _ hy);have h4:=zua.out;omega);have gA9:Gr w w9:=gx9.all (gAq.trans gz) (fun y hy => (Ar hOz.out y (hin9 y hy)).2);obtain ⟨o0,o1,o2,o3⟩:=hU9.c4;obtain ⟨p0,p1⟩:=hR9.c2;obtain ⟨q0,q1,q2,q3⟩:=hT9.c4;have qf:=fun i => hT9.free i;refine Fm ?_ hU9 hT9 hR9 hRb9 hUt9 hown9 gx9;clear hU9 hT9 hR9 hRb9 hUt9 hown9 gx9;intro hU9 hT9 hR9 hRb9 hUt9 hown9 gx9;clear hgr9 hin9)
     | fail)
   clear u0 u1 u2 u3 o0 o1 o2 o3 q0 q1 q2 q3 t0 t1 t2 t3 r0 r1 p0 p1 tf qf;obtain ⟨wf,hwf⟩:=zE ((((w9.setCell ⟨w.heap.size + 1,0,none⟩ (.slice U.an U.N.length U.cn)).setCell ⟨w.heap.size + 1,1,none⟩ (.slice U.ag U.G.length U.cg)).setCell ⟨w.heap.size + 1,2,none⟩ (.int .i64 U.last)).setCell ⟨w.heap.size + 1,3,none⟩ (.int .i64 U.now));rw [← hwf];obtain ⟨hTf,hUf,gxf,gAf⟩:=Ep (B:=wa.heap.size) (by have h1:=zto.out;have h2:=zua.out;omega) hT9.out rfl hUt9.out hwf gA9 (by omega);have hRbf:=hRb9.out.grx gxf (by simp);have hOf:=BW hown9.out gxf (fun k hk hm => Aj hown9.out hT9.out (by decide) (by rw [List.mem_singleton.1 hm] at hk;exact hk));have hle:(Rs ++ [(vc,vi)]).length = Rs.length + 1:=by simp
   rw [hle] at hOf;have hOf2:wf.ownsRow w.heap.size 34 2 (.slice a9 (Rs.length + 1) c9) (Cb (L.take (k + 1))).length ((Cb (L.take (k + 1))).flatMap Ei):=by
    have h1:Cb (L.take (k + 1)) = Rs ++ [(vc,vi)]:=by rw [tk.out,Is,← hRs.out,← hTv.out,← hV.out]
    rw [h1,hle];exact hOf
   have hUv:U.v = Cp (L.take (k + 1)):=by rw [tk.out,GY,← hTv.out,← hV.out];exact hU.out
   have hUm:=hUf.mono (K':=fun b => w.heap.size + 2≤b) (fun b _ hb => by have h1:=zto.out;have h2:=zua.out;omega);refine Br ?_ hwf hTf hUf gxf hRbf hOf hOf2 hUv;clear hwf hTf hUf gxf hRbf hOf hOf2 hUv;intro hwf hTf hUf gxf hRbf hOf hOf2 hUv;replace hUm:=zH hUm;clear hle;go_wp2_with fail;go_roundw;case rel => exact ⟨k + 1,U,by omega,by go_num,Lib.hid ⟨hTf.out,hUm.out,hUv.out,hRbf.out,hOf2.out⟩,gAf⟩
   case measure => simp [intOf];omega
  ·have hkl:k = L.length:=by omega
   have ti:¬ (k:Int) < L.length:=by omega
   have tib:decide ((k:Int) < L.length) = false:=decide_eq_false ti;have hall:L.take k = L:=List.take_of_length_le (by omega);rw [hall] at hRs hTv;have rf:=fun i => hRb.free i
   obtain ⟨t0,t1,t2,t3⟩:=hTb.c4;obtain ⟨r0,r1,r2,r3⟩:=hRb.c4;obtain ⟨wf,hwf⟩:=zE ((((wo.setCell ⟨w.heap.size,0,none⟩ (.slice T.an T.N.length T.cn)).setCell ⟨w.heap.size,1,none⟩ (.slice T.ag T.G.length T.cg)).setCell ⟨w.heap.size,2,none⟩ (.int .i64 T.last)).setCell ⟨w.heap.size,3,none⟩ (.int .i64 T.now));obtain ⟨hRf,hTf,gxf,gAf⟩:=Ep (B:=w.heap.size + 2) (by omega) hRb rfl hTt hwf hg (Nat.le_refl _);have hOf:=BW hO gxf (fun k hk hm => Aj hO hRb (by decide) (by rw [List.mem_singleton.1 hm] at hk;exact hk));obtain ⟨z0,z1,z2,z3⟩:=hRf.c4;refine Br ?_ hTb hTt hTv hRb hO hRs hRl hall;clear hTb hTt hTv hRb hO hRs hRl hall;intro hTb hTt hTv hRb hO hRs hRl hall;refine DT ?_ hkl hRf hTf gxf hOf;clear hkl hRf hTf gxf hOf;intro hkl hRf hTf gxf hOf;go_wp2_with fail;rw [← hwf];refine bodyPost_ret (v:=.tuple #[.agg T.row,.slice ra Rs.length rc]) (by simp [results,Tryz.results63,go_sem,z0,z1,z2,z3]) rfl ?_;exact ⟨T,ra,rc,by rw [hRs.out],hTv.out,by rw [← hRs.out];exact hOf.out,hTf.out.mono (fun b _ hb => Nat.le_trans (Nat.le_add_right _ _) hb),gAf⟩
theorem Jy {B:Nat} {w:World} {ops:Array Oper} {rest:List Oper} {o:Oper} {a:Act} {Q:Exit→Act→World→Prop} (hgd:o.guard = none) (s x:Operand)
 (ho:o.op = .call { callee:=.builtin .append,args:=#[s,x],argTypes:=#[49,49] }) (a1:Option Addr) (c1:Nat) (L1:List (Int × Int)) (hs:a.eval s = .slice a1 L1.length c1) (hO:w.ownsRow B 34 2 (.slice a1 L1.length c1) L1.length (L1.flatMap Ei))
 (sa:Option Addr) (c:Nat) (l:List (Int × Int)) (hx:a.eval x = .slice sa l.length c) (hl:Al 2 Ei w sa l) (hc:sa = none→c = 0) (hb:L1.length + l.length≤1000000) (hB:B≤w.heap.size)
 (h:∀ a' c' w',w'.ownsRow B 34 2 (.slice a' (L1 ++ l).length c') (L1 ++ l).length ((L1 ++ l).flatMap Ei)→w.grownBy w' (Value.slice a1 L1.length c1).ownBlock→wpList Tryz.prog ops Q rest (a.put o.dst (.slice a' (L1 ++ l).length c')) w'):wpList Tryz.prog ops Q (o :: rest) a w:=by
 obtain ⟨i5,hi,hz0,hz1,hz2⟩:=info_parts Tryz.infoRes;refine Ai (k:=2) (enc:=Ei) hgd s x 49 ho B 34 i5 _ 16 Tryz.underlying49 hi hz0 hz1 hz2 rfl (by decide) Cf JV (.slice a1 L1.length c1) L1 hs hO sa c l hx hl hc (by unfold maxLen;omega) (by omega) hB ?_;intro v2 w2 hown2 hgr2;obtain ⟨a2,c2,hv2,-,-,-⟩:=Af Cf hown2;subst hv2;exact h a2 c2 w2 hown2 hgr2
theorem M8 (L:List At):C0 (Cp L):=Kr _
theorem EM (a:Option Addr) (c:Nat) (L:List At) (w:World) (h:Cc Any w a L) (hi:∀ x ∈ L,EG x.e) (hm:L.length≤100000) :
 Calls Tryz.prog 18 #[.slice a L.length c] w (Pc L w):=by
 obtain ⟨W,hW⟩:=zE (((w.alloc (.cells #[.slice none 0 0,.slice none 0 0,.int .i64 0,.int .i64 0] 27)).alloc (.cells #[.slice none 0 0,.slice none 0 0,.int .i64 0,.int .i64 0] 27)).alloc (.cells #[] 34));have gW:Gr w W:=by rw [hW];exact (((Gr.refl w).alloc _).alloc _).alloc _
 have hRW:Ag W w.heap.size #[.slice none 0 0,.slice none 0 0,.int .i64 0,.int .i64 0] 27:=by rw [hW];exact ((Ag.new w _ _).alloc _).alloc _
 have hTW:Ag W (w.heap.size + 1) #[.slice none 0 0,.slice none 0 0,.int .i64 0,.int .i64 0] 27:=by
  rw [hW];exact Ag.n1.alloc _
 have hOW:W.ownsRow w.heap.size 34 2 (.slice (some ⟨w.heap.size + 2,0,none⟩) 0 0) ([]:List (Int × Int)).length (([]:List (Int × Int)).flatMap Ei):=by
  have:=Bw (α:=Int × Int) (enc:=Ei) ((w.alloc (.cells #[.slice none 0 0,.slice none 0 0,.int .i64 0,.int .i64 0] 27)).alloc (.cells #[.slice none 0 0,.slice none 0 0,.int .i64 0,.int .i64 0] 27)) 34 2 (.cells #[] 34) rfl w.heap.size (by simp;omega);rw [zL,zL] at this;rw [hW];exact this
 refine Dn ?_ hW hRW hTW hOW h hi;clear hW hRW hTW hOW h hi;intro hW hRW hTW hOW h hi;go_enter Tryz.func18,Tryz.ntmps18;go_upto_region 3 with fail
 rw [← hW.out];go_wp2_with fail;go_loopw [5,14] (fun sv iv wr => ∃ (k:Nat) (T:TM),k≤L.length∧iv = .int .i64 k∧Hid (Ag wr (w.heap.size + 1) T.row 27∧Av (fun b => w.heap.size + 2≤b) wr T∧T.v = Cp (L.take k)∧Ag wr w.heap.size #[.slice none 0 0,.slice none 0 0,.int .i64 0,.int .i64 0] 27∧wr.ownsRow w.heap.size 34 2 sv (Cb (L.take k)).length ((Cb (L.take k)).flatMap Ei))∧Gr w wr) (fun _ iv _ => L.length - (intOf iv).toNat);case atStart => exact ⟨0,⟨[],none,0,[],none,0,0,0⟩,Nat.zero_le _,rfl,Lib.hid ⟨hTW.out,Av.none _ _ _ _,rfl,hRW.out,hOW.out⟩,gW⟩
 case round =>
  obtain ⟨k,T,hk,rfl,hI,hg⟩:=hrel;obtain ⟨hTb,hTt,hTv,hRb,hO⟩:=hI.out;clear hI;obtain ⟨wo,rfl⟩:∃ wo:World,wo = wr:=⟨wr,rfl⟩
  obtain ⟨Rs,hRs⟩:=zE (Cb (L.take k));rw [← hRs] at hO;have hRl:Rs.length = k:=by rw [hRs,Ev,List.length_take];omega
  obtain ⟨ra,rc,e5,hro,-,-⟩:=Af Cf hO;subst e5;by_cases hlt:k < L.length
  ·obtain ⟨x,hx⟩:=Ac L k hlt;obtain ⟨b,off,hag,hb,_,d0,d1,d2,d3,d4,d5,d6,d7,d8,d9⟩:=(h.out.gr hg).get hx;subst hag;obtain ⟨x1,x2,x3⟩:=hi.out x (AL hx);have hxo:=(h.out.gr hg).2 x (AL hx);have tk:L.take (k + 1) = L.take k ++ [x]:=Ae hx;have hS:Bq (L.take k).length T.v:=by rw [hTv];exact Fa _
   have hF:C0 T.v:=by rw [hTv];exact M8 _
   have hkl:(L.take k).length≤100000:=by rw [List.length_take];omega
   obtain ⟨eb,heb⟩:=zE wo.heap.size;obtain ⟨wa,hwa⟩:=zE (wo.alloc (.cells #[.int .i64 x.e.cl,.int .i64 x.e.nu,.int .i64 x.e.kd,.int .i64 x.e.id,.int .i64 x.e.srv.k,.int .i64 x.e.srv.q,.int .i64 x.e.srv.t,.int .i64 x.e.po,.slice x.a x.e.tasks.length x.c,.int .i64 x.e.at_] 137));have ga:Gr wo wa:=by rw [hwa];exact (Gr.refl _).alloc _
   have hXa:Ag wa eb #[.int .i64 x.e.cl,.int .i64 x.e.nu,.int .i64 x.e.kd,.int .i64 x.e.id,.int .i64 x.e.srv.k,.int .i64 x.e.srv.q,.int .i64 x.e.srv.t,.int .i64 x.e.po,.slice x.a x.e.tasks.length x.c,.int .i64 x.e.at_] 137:=by rw [hwa,heb];exact Ag.new _ _ _
   have gAa:=hg.trans ga;have hTa:=hTb.gr ga;have hta:=hTt.gr ga;have hc:=Lb T wa hta.any hS hF (by omega) (Eh x.e) x.a x.c ((hxo.gr ga).1.1) hxo.2.2.2.2;obtain ⟨V,hV⟩:=zE (T.v.apply (Eh x.e));rw [← hV] at hc;obtain ⟨t0,t1,t2,t3⟩:=hTa.c4;obtain ⟨y0,y1,y2,y3,y4,y5,y6,y7,y8,y9⟩:=hXa.c10;refine Br ?_ hx heb hwa hXa hTb hTt hTv hRb;clear hx heb hwa hXa hTb hTt hTv hRb;intro hx heb hwa hXa hTb hTt hTv hRb;refine Br ?_ hO hRs hTa hta hc hV hxo tk;clear hO hRs hTa hta hc hV hxo tk;intro hO hRs hTa hta hc hV hxo tk;replace hS:=zH hS;replace hF:=zH hF;go_upto_region 6 with fail
   rw [← heb.out,← hwa.out];clear d0 d1 d2 d3 d4 d5 d6 d7 d8 d9;go_wp2_with fail;refine hc.out.mono ?_;rintro e wb ⟨U,rfl,hU,hUo,gb⟩;clear t0 t1 t2 t3 y0 y1 y2 y3 y4 y5 y6 y7 y8 y9;obtain ⟨V1,vc,vi⟩:=V;dsimp only at hU ⊢;have hUt:=hUo.at;clear hUo;obtain ⟨ub,hub⟩:=zE wb.heap.size;obtain ⟨wq,hwq⟩:=zE ((wb.alloc (.cells U.row 27)).alloc (.cells #[.int .i64 vc,.int .i64 vi] 34));have gq:Gr wb wq:=by rw [hwq];exact ((Gr.refl _).alloc _).alloc _
   have hUb:Ag wq ub U.row 27:=by rw [hwq,hub];exact (Ag.new _ _ _).alloc _
   have hRq:Ag wq (ub + 1) #[.int .i64 vc,.int .i64 vi] 34:=by
    rw [hwq,hub];have:=Ag.new (wb.alloc (.cells U.row 27)) #[.int .i64 vc,.int .i64 vi] 34;rw [zL] at this;exact this
   have gaq:=(ga.trans gb).trans gq;have gAq:=hg.trans gaq;have hTq:=hTb.out.gr gaq;have hUq:=hUt.gr gq;have hRbq:=hRb.out.gr gaq;have hOq:=As hO.out gaq;have zub:wa.heap.size≤wb.heap.size:=gb.size;have zua:wo.heap.size≤wa.heap.size:=ga.size;have zto:=hTb.out.lt;have zrl:=fun y hy => (Ar hO.out y hy).1
   replace hRl:=zH hRl;have hRk:Rs.length≤100000:=by have:=hRl.out;omega
   have zu1:=hUb.lt;have zu2:=hRq.lt;have zu3:=hTq.lt;have n1:ub ≠ w.heap.size + 1:=by omega
   have n2:ub + 1 ≠ w.heap.size + 1:=by omega
   have n1s:w.heap.size + 1 ≠ ub:=by omega
   have n2s:w.heap.size + 1 ≠ ub + 1:=by omega
   have tf:=fun i => hTq.free i
   obtain ⟨u0,u1,u2,u3⟩:=hUb.c4;obtain ⟨t0,t1,t2,t3⟩:=hTq.c4;refine Br ?_ hub hwq hUb hRq hTq hUq hRbq hOq;clear hub hwq hUb hRq hTq hUq hRbq hOq;intro hub hwq hUb hRq hTq hUq hRbq hOq;refine Dn ?_ hUt hU zub zua zto zrl;clear hUt hU zub zua zto zrl;intro hUt hU zub zua zto zrl;go_upto_region 7 with fail
   rw [← hub.out,← hwq.out];go_upto_region 8 with fail
   clear u0 u1 u2 u3 t0 t1 t2 t3 tf;obtain ⟨wf,hwf⟩:=zE ((((wq.setCell ⟨w.heap.size + 1,0,none⟩ (.slice U.an U.N.length U.cn)).setCell ⟨w.heap.size + 1,1,none⟩ (.slice U.ag U.G.length U.cg)).setCell ⟨w.heap.size + 1,2,none⟩ (.int .i64 U.last)).setCell ⟨w.heap.size + 1,3,none⟩ (.int .i64 U.now));rw [← hwf];obtain ⟨hTf,hUf,gxf,gAf⟩:=Ep (B:=wa.heap.size) (by have h1:=zto.out;have h2:=zua.out;omega) hTq.out rfl hUq.out hwf gAq (by omega);have hRbf:=hRbq.out.grx gxf (by simp);have hRf:=hRq.out.grx gxf (by simp;omega);have hOf:=BW hOq.out gxf (fun k hk hm => Aj hOq.out hTq.out (by decide) (by rw [List.mem_singleton.1 hm] at hk;exact hk));have gqf:=gxf.size;have gz:Gr wf (wf.alloc (.cells #[.int .i64 vc,.int .i64 vi] 34)):=(Gr.refl wf).alloc _;have hOz:=As hOf gz;have hsz:Al 2 Ei (wf.alloc (.cells #[.int .i64 vc,.int .i64 vi] 34)) (some ⟨wf.heap.size,0,none⟩) [(vc,vi)]:=An Cf wf [(vc,vi)] 34 #[.int .i64 vc,.int .i64 vi] (by simp);have hbz:w.heap.size≤(wf.alloc (.cells #[.int .i64 vc,.int .i64 vi] 34)).heap.size:=(gAf.trans gz).size;obtain ⟨r0,r1⟩:=hRf.c2;refine Br ?_ hwf hTf hUf gxf hRbf hRf hOf hOz;clear hwf hTf hUf gxf hRbf hRf hOf hOz;intro hwf hTf hUf gxf hRbf hRf hOf hOz;replace hsz:=zH hsz;replace gqf:=zH gqf;go_wp2_with (at_builtin;go_loud (refine Jy (B:=w.heap.size) rfl _ _ rfl ra rc Rs rfl hOz.out (some ⟨wf.heap.size,0,none⟩) 1 [(vc,vi)] rfl hsz.out (fun h => by cases h) (by show Rs.length + 1≤_;omega) hbz ?_;intro a9 c9 w9 hown9 hgr9;have gx9:Aw (Value.slice ra Rs.length rc).ownBlock.toList (wf.alloc (.cells #[.int .i64 vc,.int .i64 vi] 34)) w9:=⟨hgr9.os,hgr9.tape,hgr9.output,hgr9.size,fun k hk hn => hgr9.block k hk (fun e => hn (by simp [← e]))⟩;have hin9:∀ y,y ∈ (Value.slice ra Rs.length rc).ownBlock.toList→(Value.slice ra Rs.length rc).ownBlock = some y:=fun y hy => (by simpa using hy);have hT9:=(hTf.out.gr gz).grx gx9 (fun hm => Aj hOz.out (hTf.out.gr gz) (by decide) (hin9 _ hm));have hRb9:=(hRbf.out.gr gz).grx gx9 (fun hm => Aj hOz.out (hRbf.out.gr gz) (by decide) (hin9 _ hm));have hUt9:=(hUf.out.gr gz).grx gx9 (fun y hy hk => by have h1:=zrl.out _ (hin9 _ hy);have h4:=zua.out;omega);have gA9:Gr w w9:=gx9.all (gAf.trans gz) (fun y hy => (Ar hOz.out y (hin9 y hy)).2);refine DT ?_ hT9 hRb9 hUt9 hown9 gx9;clear hT9 hRb9 hUt9 hown9 gx9;intro hT9 hRb9 hUt9 hown9 gx9;clear hgr9 hin9));have hle:(Rs ++ [(vc,vi)]).length = Rs.length + 1:=by simp
   have hOf2:w9.ownsRow w.heap.size 34 2 (.slice a9 (Rs.length + 1) c9) (Cb (L.take (k + 1))).length ((Cb (L.take (k + 1))).flatMap Ei):=by
    have h1:Cb (L.take (k + 1)) = Rs ++ [(vc,vi)]:=by rw [tk.out,Is,← hRs.out,← hTv.out,← hV.out]
    have h2:=hown9.out;rw [hle] at h2;rw [h1,hle];exact h2
   have hUv:U.v = Cp (L.take (k + 1)):=by rw [tk.out,GY,← hTv.out,← hV.out];exact hU.out
   have hUm:=hUt9.out.mono (K':=fun b => w.heap.size + 2≤b) (fun b _ hb => by have h1:=zto.out;have h2:=zua.out;omega);refine AZ ?_ hOf2 hUv hUm;clear hOf2 hUv hUm;intro hOf2 hUv hUm;clear hle;go_roundw;case rel => exact ⟨k + 1,U,by omega,by go_num,Lib.hid ⟨hT9.out,hUm.out,hUv.out,hRb9.out,hOf2.out⟩,gA9⟩
   case measure => simp [intOf];omega
  ·have hkl:k = L.length:=by omega
   have ti:¬ (k:Int) < L.length:=by omega
   have tib:decide ((k:Int) < L.length) = false:=decide_eq_false ti;have hall:L.take k = L:=List.take_of_length_le (by omega);rw [hall] at hRs hTv;have rf:=fun i => hRb.free i
   obtain ⟨t0,t1,t2,t3⟩:=hTb.c4;obtain ⟨r0,r1,r2,r3⟩:=hRb.c4;obtain ⟨wf,hwf⟩:=zE ((((wo.setCell ⟨w.heap.size,0,none⟩ (.slice T.an T.N.length T.cn)).setCell ⟨w.heap.size,1,none⟩ (.slice T.ag T.G.length T.cg)).setCell ⟨w.heap.size,2,none⟩ (.int .i64 T.last)).setCell ⟨w.heap.size,3,none⟩ (.int .i64 T.now));obtain ⟨hRf,hTf,gxf,gAf⟩:=Ep (B:=w.heap.size + 2) (by omega) hRb rfl hTt hwf hg (Nat.le_refl _);have hOf:=BW hO gxf (fun k hk hm => Aj hO hRb (by decide) (by rw [List.mem_singleton.1 hm] at hk;exact hk));obtain ⟨z0,z1,z2,z3⟩:=hRf.c4;refine Br ?_ hTb hTt hTv hRb hO hRs hRl hall;clear hTb hTt hTv hRb hO hRs hRl hall;intro hTb hTt hTv hRb hO hRs hRl hall;refine DT ?_ hkl hRf hTf gxf hOf;clear hkl hRf hTf gxf hOf;intro hkl hRf hTf gxf hOf;go_wp2_with fail;rw [← hwf];refine bodyPost_ret (v:=.tuple #[.agg T.row,.slice ra Rs.length rc]) (by simp [results,Tryz.results18,go_sem,z0,z1,z2,z3]) rfl ?_;exact ⟨T,ra,rc,by rw [hRs.out],hTv.out,by rw [← hRs.out];exact hOf.out,hTf.out.mono (fun b _ hb => Nat.le_trans (Nat.le_add_right _ _) hb),gAf⟩
variable {K0:Nat→Prop}
structure Rnd where
 an:List Bool
 x:At
 reads:Bool
 bal:Bal
 st:Int
 nw:Bal
 la:Option Addr
 lc:Nat
 led:List At
 begun:Int
variable {K0:Nat→Prop}
variable {K0:Nat→Prop}
variable {K0:Nat→Prop}
variable {K0:Nat→Prop}
variable {K0:Nat→Prop}
variable {K0:Nat→Prop}
section
variable {G:List Nat} {E:Nat→Addr} {W0:World} {R:Rnd} {w:World} {rb ab:Nat}
end
section
variable {G:List Nat} {E:Nat→Addr} {W0:World} {R:Rnd} {w:World} {rb ab:Nat}
end
variable {K0:Nat→Prop}
theorem FO {w:World} {a:Option Addr} {l:List AA} (h:Al 4 AA.cells w a l) {i:Nat} {d:AA} (hd:l[i]? = some d):∃ b off,a = some ⟨b,off,none⟩∧b < w.heap.size∧w.cell? ⟨b,off + i * 4,none⟩ = some (.int .i64 d.c)∧w.cell? ⟨b,off + i * 4 + 1,none⟩ = some (.int .i64 d.p)∧w.cell? ⟨b,off + i * 4 + 2,none⟩ = some (.int .i64 d.d)∧w.cell? ⟨b,off + i * 4 + 3,none⟩ = some (.int .i64 d.s):=by
 obtain ⟨b,off,ha,hb,hc⟩:=h i d hd;exact ⟨b,off,ha,hb,hc 0 _ rfl,hc 1 _ rfl,hc 2 _ rfl,hc 3 _ rfl⟩
theorem I5 (e:Du) (a1 a2:Option Addr) (c1 c2:Nat) (w:World) (h1:(⟨e,a1,c1⟩:At).ok Any w) (h2:(⟨e,a2,c2⟩:At).ok Any w) :
 Calls Tryz.prog 124 #[.agg #[.int .i64 e.kd,.int .i64 e.id,.int .i64 e.srv.k,.int .i64 e.srv.q,.int .i64 e.srv.t,.int .i64 e.po,.slice a1 e.tasks.length c1,.int .i64 e.at_],.agg #[.int .i64 e.kd,.int .i64 e.id,.int .i64 e.srv.k,.int .i64 e.srv.q,.int .i64 e.srv.t,.int .i64 e.po,.slice a2 e.tasks.length c2,.int .i64 e.at_]] w fun x w' => x = .returned (.bool true)∧Gr w w':=by
 have hcap:=Jn h1;dsimp only at hcap;go_enter Tryz.func124,Tryz.ntmps124;go_wp2_with fail;have gW:=((Gr.refl w).alloc (.cells #[.int .i64 e.kd,.int .i64 e.id,.int .i64 e.srv.k,.int .i64 e.srv.q,.int .i64 e.srv.t,.int .i64 e.po,.slice a1 e.tasks.length c1,.int .i64 e.at_] 32)).alloc (.cells #[.int .i64 e.kd,.int .i64 e.id,.int .i64 e.srv.k,.int .i64 e.srv.q,.int .i64 e.srv.t,.int .i64 e.po,.slice a2 e.tasks.length c2,.int .i64 e.at_] 32);go_loopw [51] (fun iv wr => ∃ k:Nat,k≤e.tasks.length∧iv = .int .i64 k∧Gr ((w.alloc (.cells #[.int .i64 e.kd,.int .i64 e.id,.int .i64 e.srv.k,.int .i64 e.srv.q,.int .i64 e.srv.t,.int .i64 e.po,.slice a1 e.tasks.length c1,.int .i64 e.at_] 32)).alloc (.cells #[.int .i64 e.kd,.int .i64 e.id,.int .i64 e.srv.k,.int .i64 e.srv.q,.int .i64 e.srv.t,.int .i64 e.po,.slice a2 e.tasks.length c2,.int .i64 e.at_] 32)) wr) (fun iv _ => e.tasks.length - (intOf iv).toNat);case atStart => exact ⟨0,Nat.zero_le _,rfl,Gr.refl _⟩
 case round =>
  obtain ⟨k,hk,rfl,hg⟩:=hrel;obtain ⟨cg,fg,sg⟩:=hg.cells;simp only [zL] at cg fg sg;have k1:=fun o => cg w.heap.size o (by omega)
  have k2:=fun o => cg (w.heap.size + 1) o (by omega)
  clear cg fg;by_cases hlt:k < e.tasks.length
  ·obtain ⟨d,hd⟩:=Ac e.tasks k hlt;obtain ⟨b,off,hb0,hb,d0,d1,d2,d3⟩:=FO ((h1.gr gW).gr hg).1.1 hd;obtain ⟨b',off',hb0',hb',d0',d1',d2',d3'⟩:=FO ((h2.gr gW).gr hg).1.1 hd;dsimp only at hb0 hb0';subst hb0 hb0';replace hd:=zH hd;go_wp2_with fail;go_quiet (fail);go_wp2_with fail;go_roundw;case rel => exact ⟨k + 1,by omega,by go_num,hg.drewN _⟩
   case measure => simp [intOf];omega
  ·go_wp2_with fail;go_ret;exact ⟨rfl,gW.trans hg⟩
theorem ON (e:Du) (a1 a2:Option Addr) (c1 c2:Nat) (w:World) (h1:(⟨e,a1,c1⟩:At).ok Any w) (h2:(⟨e,a2,c2⟩:At).ok Any w) :
 Calls Tryz.prog 70 #[.agg (List.toArray (e.cells a1 c1)),.agg (List.toArray (e.cells a2 c2))] w fun x w' => x = .returned (.bool true)∧Gr w w':=by
 have gW:=((Gr.refl w).alloc (.cells #[.int .i64 e.cl,.int .i64 e.nu,.int .i64 e.kd,.int .i64 e.id,.int .i64 e.srv.k,.int .i64 e.srv.q,.int .i64 e.srv.t,.int .i64 e.po,.slice a1 e.tasks.length c1,.int .i64 e.at_] 137)).alloc (.cells #[.int .i64 e.cl,.int .i64 e.nu,.int .i64 e.kd,.int .i64 e.id,.int .i64 e.srv.k,.int .i64 e.srv.q,.int .i64 e.srv.t,.int .i64 e.po,.slice a2 e.tasks.length c2,.int .i64 e.at_] 137);have hso:=I5 e a1 a2 c1 c2 _ (h1.gr gW) (h2.gr gW);replace hso:=zH hso;clear h1 h2;go_enter Tryz.func70,Tryz.ntmps70;go_wp2_with fail;refine hso.out.mono ?_;rintro x w1 ⟨rfl,g1⟩;go_wp2_with fail;go_ret;exact ⟨rfl,gW.trans g1⟩
theorem HV (a1 a2:Option Addr) (c1 c2:Nat) (L1 L2:List At) (w:World) (h1:Cc Any w a1 L1) (h2:Cc Any w a2 L2) (he:L1.map (·.e) = L2.map (·.e)) (hm:L1.length≤maxLen) :
 Calls Tryz.prog 24 #[.slice a1 L1.length c1,.slice a2 L2.length c2] w fun x w' => x = .returned (.bool true)∧Gr w w':=by
 have hlen:L2.length = L1.length:=by simpa using (congrArg List.length he).symm
 have hsm:=fun e a1 a2 c1 c2 (w':World) h1 h2 => ON e a1 a2 c1 c2 w' h1 h2
 replace hsm:=zH hsm;rw [hlen];replace hlen:=zH hlen;replace he:=zH he;unfold maxLen at hm;go_enter Tryz.func24,Tryz.ntmps24;go_wp2_with fail;go_loopw [13] (fun iv wr => ∃ k:Nat,k≤L1.length∧iv = .int .i64 k∧Gr w wr) (fun iv _ => L1.length - (intOf iv).toNat);case atStart => exact ⟨0,Nat.zero_le _,rfl,Gr.refl _⟩
 case round =>
  obtain ⟨k,hk,rfl,hg⟩:=hrel;by_cases hlt:k < L1.length
  ·obtain ⟨x,hx⟩:=Ac L1 k hlt;obtain ⟨y,hy⟩:=Ac L2 k (by rw [hlen.out];exact hlt);have hxy:y.e = x.e:=by
    have e1:(L1.map (·.e))[k]? = some x.e:=by simp [hx]
    have e2:(L2.map (·.e))[k]? = some y.e:=by simp [hy]
    rw [he.out,e2] at e1;exact Option.some.inj e1
   obtain ⟨y,a4,c4⟩:=y;dsimp only at hxy;subst hxy;obtain ⟨b,off,rfl,hb,_,d0,d1,d2,d3,d4,d5,d6,d7,d8,d9⟩:=(h1.gr hg).get hx;obtain ⟨b',off',rfl,hb',_,e0,e1,e2,e3,e4,e5,e6,e7,e8,e9⟩:=(h2.gr hg).get hy;have o1:=(h1.gr hg).2 x (AL hx);have o2:=(h2.gr hg).2 _ (AL hy);dsimp only at e0 e1 e2 e3 e4 e5 e6 e7 e8 e9;have q0:=AB.cell d0;have q1:=AB.cell d1;have q2:=AB.cell d2;have q3:=AB.cell d3;have q4:=AB.cell d4;have q5:=AB.cell d5;have q6:=AB.cell d6;have q7:=AB.cell d7;have q8:=AB.cell d8;have q9:=AB.cell d9;have p0:=AB.cell e0;have p1:=AB.cell e1;have p2:=AB.cell e2;have p3:=AB.cell e3;have p4:=AB.cell e4;have p5:=AB.cell e5;have p6:=AB.cell e6;have p7:=AB.cell e7;have p8:=AB.cell e8;have p9:=AB.cell e9;replace hx:=zH hx;replace hy:=zH hy;go_wp2_with fail;refine Ap (by kernel_rfl) (by kernel_rfl) ?_;repeat (any_goals (first | go_big_quiet_step (first | (exact Calls.grows (hsm.out x.e x.a a4 x.c c4 _ (o1.gr (by exact AB.gr _)) (o2.gr (by exact AB.gr _))))) | quiet_step (first | (exact Calls.grows (hsm.out x.e x.a a4 x.c c4 _ (o1.gr (by exact AB.gr _)) (o2.gr (by exact AB.gr _)))))))
   refine wpQuiet_nil ?_;intro wp hwq;have gp:=AB.of hwq;clear hwq;obtain ⟨cp,fp,sp⟩:=gp.cells;try simp only [Aa] at cp fp sp
   try simp only [zL] at cp fp sp
   try simp only [zD] at cp fp sp
   try simp only [zS] at cp fp sp
   clear q0 q1 q2 q3 q4 q5 q6 q7 q8 q9 p0 p1 p2 p3 p4 p5 p6 p7 p8 p9;go_wp2_with fail;go_roundw;case rel => exact ⟨k + 1,by omega,by go_num,hg.trans gp⟩
   case measure => simp [intOf];omega
  ·go_wp2_with fail;go_ret;exact ⟨rfl,hg⟩
def Eo (t:AA):Bool:=Fb t.c && Fb t.p && Fb t.d && Fb t.s
def Gk (e:Du):Bool :=
 Fb e.at_ && Fb e.id && (
  if e.kd = 1 ∨ e.kd = 2 then decide (e.po = 0) && decide (e.tasks = []) && (Fb e.srv.k && Fb e.srv.q && Fb e.srv.t)
  else if e.kd = 3 then decide (e.po = 0) && decide (e.tasks = []) && decide (e.srv.k = 0∧e.srv.q = 0∧e.srv.t = 0)
  else if e.kd = 4 then decide (e.srv.k = 0∧e.srv.q = 0∧e.srv.t = 0) && Fb e.po && decide (e.tasks.length≤8) && e.tasks.all Eo
  else false)
def FC (e:Du):Bool:=decide (0≤e.cl∧e.cl < 16∧1≤e.nu∧e.nu≤1099511627776) && Gk e
theorem JE (t:AA) (w:World) :
 Calls Tryz.prog 255 #[.agg #[.int .i64 t.c,.int .i64 t.p,.int .i64 t.d,.int .i64 t.s]] w fun e w' => e = .returned (.bool (!Eo t))∧Gr w w':=by
 have hf:=fun (b:Nat) (w:World) h => LZ (some ⟨b,0,none⟩) [t.c,t.p,t.d,t.s] 4 w h (by unfold maxLen;simp)
 have hall:[t.c,t.p,t.d,t.s].all Fb = Eo t:=by simp [Eo,Bool.and_assoc]
 rw [hall] at hf;obtain ⟨v,hv⟩:=zE (Eo t);rw [← hv] at hf ⊢;replace hv:=zH hv;replace hf:=zH hf;clear hall;go_enter Tryz.func255,Tryz.ntmps255;go_wp2_with fail;refine (hf.out (w.heap.size + 1) _ ?_).mono ?_
 ·have:=An DN (w.alloc (.cells #[.int .i64 t.c,.int .i64 t.p,.int .i64 t.d,.int .i64 t.s] 41)) [t.c,t.p,t.d,t.s] 3 #[.int .i64 t.c,.int .i64 t.p,.int .i64 t.d,.int .i64 t.s] rfl;simpa using this
 rintro e w1 ⟨rfl,rfl⟩;go_wp2_with fail;go_ret;exact ⟨rfl,((Gr.refl _).alloc _).alloc _⟩
theorem Kl (a:Option Addr) (c:Nat) (L:List AA) (w:World) (h:AC Any 4 AA.cells w a L) (hm:L.length≤maxLen) :
 Calls Tryz.prog 270 #[.slice a L.length c,.func (.func 255) #[] #[]] w fun e w' => (∃ n,e = .returned (.int .i64 n)∧(L.all Eo = decide (n < 0)))∧Gr w w':=by
 unfold maxLen at hm;go_enter Tryz.func270,Tryz.ntmps270;go_wp2_with fail;go_loopw [8] (fun iv wr => ∃ k:Nat,k≤L.length∧iv = .int .i64 k∧(L.take k).all Eo = true∧Gr w wr) (fun iv _ => L.length - (intOf iv).toNat);case atStart => exact ⟨0,Nat.zero_le _,rfl,rfl,Gr.refl _⟩
 case round =>
  obtain ⟨k,hk,rfl,hbf,hg⟩:=hrel;replace hbf:=zH hbf;by_cases hlt:k < L.length
  ·obtain ⟨x,hx⟩:=Ac L k hlt;obtain ⟨b,off,rfl,hbb,c0,c1,c2,c3⟩:=FO (h.grx (T:=[]) (hg.x []) (fun _ h => by cases h)).1 hx;have hp:=JE x wr;cases hkey:Eo x
   ·rw [hkey] at hp;have hno:L.all Eo = false:=by
     cases hh:L.all Eo
     ·rfl
     ·have:=List.all_eq_true.1 hh x (AL hx);rw [hkey] at this;cases this
    refine B0 ?_ hno hp hkey hx;clear hno hp hkey hx;intro hno hp hkey hx;go_wp2_with fail;refine (hp.out).mono ?_;rintro e wp ⟨rfl,gp⟩;obtain ⟨cp,fp,sp⟩:=gp.cells;try simp only [Aa] at cp fp sp
    try simp only [zL] at cp fp sp
    try simp only [zD] at cp fp sp
    try simp only [zS] at cp fp sp
    go_wp2_with fail;go_ret;exact ⟨⟨k,rfl,by rw [hno.out,decide_eq_false (by omega)]⟩,hg.trans gp⟩
   ·rw [hkey] at hp;have hts:=Ae hx;have hbf2:(L.take (k + 1)).all Eo = true:=by rw [hts,List.all_append,hbf.out];simp [hkey]
    refine AZ ?_ hp hbf2 hkey;clear hp hbf2 hkey;intro hp hbf2 hkey;clear hts;replace hx:=zH hx;go_wp2_with fail;refine (hp.out).mono ?_;rintro e wp ⟨rfl,gp⟩;obtain ⟨cp,fp,sp⟩:=gp.cells;try simp only [Aa] at cp fp sp
    try simp only [zL] at cp fp sp
    try simp only [zD] at cp fp sp
    try simp only [zS] at cp fp sp
    go_wp2_with fail;go_roundw;case rel => exact ⟨k + 1,by omega,by go_num,hbf2.out,hg.trans gp⟩
    case measure => simp [intOf];omega
  ·have hall:L.take k = L:=List.take_of_length_le (by omega);have hbf2:=hbf.out;rw [hall] at hbf2;replace hbf2:=zH hbf2;go_wp2_with fail;go_ret;exact ⟨⟨-1,rfl,by rw [hbf2.out];rfl⟩,hg⟩
theorem KD (a:Option Addr) (c:Nat) (L:List AA) (w:World) (h:AC Any 4 AA.cells w a L) (hm:L.length≤maxLen) :
 Calls Tryz.prog 254 #[.slice a L.length c,.func (.func 255) #[] #[]] w fun e w' => e = .returned (.bool (!L.all Eo))∧Gr w w':=by
 have hp:=Kl a c L w h hm;replace hp:=zH hp;obtain ⟨v,hv⟩:=zE (L.all Eo);rw [← hv];replace hv:=zH hv;go_enter Tryz.func254,Tryz.ntmps254;go_wp2_with fail;refine hp.out.mono ?_;rintro e w1 ⟨⟨n,rfl,hn⟩,g1⟩;replace hn:=zH hn;go_wp2_with fail;go_ret;refine ⟨?_,g1⟩;rw [hv.out,hn.out];by_cases h0:n < 0 <;> simp [h0] <;> omega
theorem HI (e:Du) (a:Option Addr) (c:Nat) (w:World) (h:(⟨e,a,c⟩:At).ok Any w) :
 Calls Tryz.prog 221 #[.agg #[.int .i64 e.kd,.int .i64 e.id,.int .i64 e.srv.k,.int .i64 e.srv.q,.int .i64 e.srv.t,.int .i64 e.po,.slice a e.tasks.length c,.int .i64 e.at_]] w fun x w' => x = .returned (.bool (Gk e))∧Gr w w':=by
 have hcap:=Jn h;dsimp only at hcap;have hf:=fun (b:Nat) (l:List Int) (w:World) h hm => LZ (some ⟨b,0,none⟩) l l.length w h hm
 replace hf:=zH hf;obtain ⟨v,hv⟩:=zE (Gk e);rw [← hv];cases hb:Fb e.at_ && Fb e.id with
 | false =>
  have hv0:v = false:=by rw [hv];unfold Gk;rw [hb];rfl
  subst hv0;have hall:[e.at_,e.id].all Fb = false:=by simpa using hb
  have hfit:=fun b w h => hf.out b [e.at_,e.id] w h (by unfold maxLen;simp)
  rw [hall] at hfit;refine AZ ?_ hfit hb hv;clear hfit hb hv;intro hfit hb hv;clear hall h;go_enter Tryz.func221,Tryz.ntmps221;go_wp2_with fail;refine (hfit.out (w.heap.size + 1) _ ?_).mono ?_
  ·have:=An DN (w.alloc (.cells #[.int .i64 e.kd,.int .i64 e.id,.int .i64 e.srv.k,.int .i64 e.srv.q,.int .i64 e.srv.t,.int .i64 e.po,.slice a e.tasks.length c,.int .i64 e.at_] 32)) [e.at_,e.id] 3 #[.int .i64 e.at_,.int .i64 e.id] rfl;simpa using this
  rintro x w1 ⟨rfl,rfl⟩;go_wp2_with fail;go_ret;exact ⟨rfl,((Gr.refl _).alloc _).alloc _⟩
 | true =>
  have hall:[e.at_,e.id].all Fb = true:=by simpa using hb
  have hfit:=fun b w h => hf.out b [e.at_,e.id] w h (by unfold maxLen;simp)
  rw [hall] at hfit;have hs:=fun w => EL e.srv ⟨0,0,0⟩ w
  obtain ⟨z,hz⟩:=zE (decide (e.srv.k = 0∧e.srv.q = 0∧e.srv.t = 0));dsimp only at hs;rw [← hz] at hs;obtain ⟨k,hk⟩:=zE e.kd;rw [← hk];have hfin:v = (if (k == 1 || k == 2) then decide (e.po = 0) && decide (e.tasks = []) && (Fb e.srv.k && Fb e.srv.q && Fb e.srv.t) else if k == 3 then decide (e.po = 0) && decide (e.tasks = []) && z else if k == 4 then z && Fb e.po && decide (e.tasks.length≤8) && e.tasks.all Eo else false):=by
   rw [hv];unfold Gk;rw [hb,← hz,← hk,Bool.true_and];simp only [Bool.or_eq_true,beq_iff_eq]
  refine Dn ?_ hfit hb hv hz hfin hk;clear hfit hb hv hz hfin hk;intro hfit hb hv hz hfin hk;clear hall;replace h:=zH h;go_enter Tryz.func221,Tryz.ntmps221;go_wp2_with fail;refine (hfit.out (w.heap.size + 1) _ ?_).mono ?_
  ·have:=An DN (w.alloc (.cells #[.int .i64 k,.int .i64 e.id,.int .i64 e.srv.k,.int .i64 e.srv.q,.int .i64 e.srv.t,.int .i64 e.po,.slice a e.tasks.length c,.int .i64 e.at_] 32)) [e.at_,e.id] 3 #[.int .i64 e.at_,.int .i64 e.id] rfl;simpa using this
  rintro x w1 ⟨rfl,rfl⟩;have hr3:=fun (W:World) => An DN W [e.srv.k,e.srv.q,e.srv.t] 3 #[.int .i64 e.srv.k,.int .i64 e.srv.q,.int .i64 e.srv.t] rfl
  have hr1:=fun (W:World) (p:Int) => An DN W [p] 3 #[.int .i64 p] rfl
  replace hr3:=zH hr3;replace hr1:=zH hr1;obtain ⟨f3,hf3⟩:=zE ([e.srv.k,e.srv.q,e.srv.t].all Fb);have hfit3:∀ b w,Al 1 Kk w (some ⟨b,0,none⟩) [e.srv.k,e.srv.q,e.srv.t]→Calls Tryz.prog 253 #[.slice (some ⟨b,0,none⟩) 3 3] w fun e w' => e = .returned (.bool f3)∧w = w':=fun b w h => by
   have:=hf.out b [e.srv.k,e.srv.q,e.srv.t] w h (by unfold maxLen;simp);rw [← hf3] at this;exact this
  have hfit1:∀ b p w,Al 1 Kk w (some ⟨b,0,none⟩) [p]→Calls Tryz.prog 253 #[.slice (some ⟨b,0,none⟩) 1 1] w fun e w' => e = .returned (.bool (Fb p))∧w = w':=fun b p w h => by
   have:=hf.out b [p] w h (by unfold maxLen;simp);rw [show [p].all Fb = Fb p by simp] at this;exact this
  refine AZ ?_ hfit3 hfit1 hf3;clear hfit3 hfit1 hf3;intro hfit3 hfit1 hf3;have hct:=fun (w:World) h => KD a c e.tasks w h (by unfold maxLen;omega)
  replace hct:=zH hct;cases z
  all_goals go_wp2_with fail
  all_goals first
   | (
    go_ret;refine ⟨C5 (Eq.symm ?_),((Gr.refl _).alloc _).alloc _⟩;clear hfit3 hfit1 hct hr3 hr1 hfit hf hb hv hs hz hk hcap hf3;go_light;rw [hfin.out];simp [*]
    done)
   | (
    with_reducible refine (hfit3.out (w.heap.size + 1 + 1) _ ?_).mono ?_
    ·have:=hr3.out ((w.alloc (.cells #[.int .i64 k,.int .i64 e.id,.int .i64 e.srv.k,.int .i64 e.srv.q,.int .i64 e.srv.t,.int .i64 0,.slice a 0 c,.int .i64 e.at_] 32)).alloc (.cells #[.int .i64 e.at_,.int .i64 e.id] 3));simpa using this
    rintro x w2 ⟨rfl,rfl⟩;go_wp2_with fail;go_ret;refine ⟨C5 (Eq.symm ?_),(((Gr.refl _).alloc _).alloc _).alloc _⟩;clear hfit3 hfit1 hct hr3 hr1 hfit hf hb hv hs hz hk hcap;go_light;rw [hfin.out,hf3.out];simp [Bool.and_assoc, *]
    done)
   | skip
  ·with_reducible refine (hfit1.out (w.heap.size + 1 + 1) 0 _ ?_).mono ?_
   ·have:=hr1.out ((w.alloc (.cells #[.int .i64 k,.int .i64 e.id,.int .i64 e.srv.k,.int .i64 e.srv.q,.int .i64 e.srv.t,.int .i64 0,.slice a e.tasks.length c,.int .i64 e.at_] 32)).alloc (.cells #[.int .i64 e.at_,.int .i64 e.id] 3)) 0;simpa using this
   rintro x w2 ⟨rfl,rfl⟩;have hct2:=hct.out (((w.alloc (.cells #[.int .i64 k,.int .i64 e.id,.int .i64 e.srv.k,.int .i64 e.srv.q,.int .i64 e.srv.t,.int .i64 0,.slice a e.tasks.length c,.int .i64 e.at_] 32)).alloc (.cells #[.int .i64 e.at_,.int .i64 e.id] 3)).alloc (.cells #[.int .i64 0] 3)) ((h.out.gr ((((Gr.refl w).alloc _).alloc _).alloc _)).1);have gW:=(((Gr.refl w).alloc (.cells #[.int .i64 k,.int .i64 e.id,.int .i64 e.srv.k,.int .i64 e.srv.q,.int .i64 e.srv.t,.int .i64 0,.slice a e.tasks.length c,.int .i64 e.at_] 32)).alloc (.cells #[.int .i64 e.at_,.int .i64 e.id] 3)).alloc (.cells #[.int .i64 0] 3);replace hct2:=zH hct2;have hx:Fb 0 = true:=by decide
   rw [hx];all_goals (replace hx:=zH hx)
   all_goals go_wp2_with fail
   all_goals first
    | (
     go_ret;refine ⟨C5 (Eq.symm ?_),gW⟩;clear hfit3 hfit1 hct hct2 hr3 hr1 hfit hf hb hv hs hz hk hcap hf3;go_light;rw [hfin.out];first
      | (
       simp [hx.out, *]
       done)
      | (
       have hl:decide (e.tasks.length≤8) = true:=decide_eq_true (by omega);rw [hl];simp [hx.out, *]
       done)
      | (
       have hl:decide (e.tasks.length≤8) = false:=decide_eq_false (by omega);rw [hl];simp [hx.out, *]
       done))
    | (
     with_reducible refine hct2.out.mono ?_
     rintro x w3 ⟨rfl,g3⟩;go_wp2_with fail;go_ret;refine ⟨C5 (Eq.symm ?_),gW.trans g3⟩;clear hfit3 hfit1 hct hct2 hr3 hr1 hfit hf hb hv hs hz hk hcap hf3 gW g3;go_light;rw [hfin.out];first
      | (
       simp [hx.out, *]
       done)
      | (
       have hl:decide (e.tasks.length≤8) = true:=decide_eq_true (by omega);rw [hl];simp [hx.out, *]
       done)
      | (
       have hl:decide (e.tasks.length≤8) = false:=decide_eq_false (by omega);rw [hl];simp [hx.out, *]
       done))
    | fail
  ·with_reducible refine (hfit1.out (w.heap.size + 1 + 1) e.po _ ?_).mono ?_
   ·have:=hr1.out ((w.alloc (.cells #[.int .i64 k,.int .i64 e.id,.int .i64 e.srv.k,.int .i64 e.srv.q,.int .i64 e.srv.t,.int .i64 e.po,.slice a e.tasks.length c,.int .i64 e.at_] 32)).alloc (.cells #[.int .i64 e.at_,.int .i64 e.id] 3)) e.po;simpa using this
   rintro x w2 ⟨rfl,rfl⟩;have hct2:=hct.out (((w.alloc (.cells #[.int .i64 k,.int .i64 e.id,.int .i64 e.srv.k,.int .i64 e.srv.q,.int .i64 e.srv.t,.int .i64 e.po,.slice a e.tasks.length c,.int .i64 e.at_] 32)).alloc (.cells #[.int .i64 e.at_,.int .i64 e.id] 3)).alloc (.cells #[.int .i64 e.po] 3)) ((h.out.gr ((((Gr.refl w).alloc _).alloc _).alloc _)).1);have gW:=(((Gr.refl w).alloc (.cells #[.int .i64 k,.int .i64 e.id,.int .i64 e.srv.k,.int .i64 e.srv.q,.int .i64 e.srv.t,.int .i64 e.po,.slice a e.tasks.length c,.int .i64 e.at_] 32)).alloc (.cells #[.int .i64 e.at_,.int .i64 e.id] 3)).alloc (.cells #[.int .i64 e.po] 3);replace hct2:=zH hct2;cases hx:Fb e.po
   all_goals (replace hx:=zH hx)
   all_goals go_wp2_with fail
   all_goals first
    | (
     go_ret;refine ⟨C5 (Eq.symm ?_),gW⟩;clear hfit3 hfit1 hct hct2 hr3 hr1 hfit hf hb hv hs hz hk hcap hf3;go_light;rw [hfin.out];first
      | (
       simp [hx.out, *]
       done)
      | (
       have hl:decide (e.tasks.length≤8) = true:=decide_eq_true (by omega);rw [hl];simp [hx.out, *]
       done)
      | (
       have hl:decide (e.tasks.length≤8) = false:=decide_eq_false (by omega);rw [hl];simp [hx.out, *]
       done))
    | (
     with_reducible refine hct2.out.mono ?_
     rintro x w3 ⟨rfl,g3⟩;go_wp2_with fail;go_ret;refine ⟨C5 (Eq.symm ?_),gW.trans g3⟩;clear hfit3 hfit1 hct hct2 hr3 hr1 hfit hf hb hv hs hz hk hcap hf3 gW g3;go_light;rw [hfin.out];first
      | (
       simp [hx.out, *]
       done)
      | (
       have hl:decide (e.tasks.length≤8) = true:=decide_eq_true (by omega);rw [hl];simp [hx.out, *]
       done)
      | (
       have hl:decide (e.tasks.length≤8) = false:=decide_eq_false (by omega);rw [hl];simp [hx.out, *]
       done))
    | fail
abbrev Om (E:Nat→Addr) (b:Bool):Value:=if b then .nilIface else (Value.iface 384 (.pointer (some (E 15))))
theorem IQ {G:List Nat} {E:Nat→Addr} (x:At) (w:World) (h:x.ok Any w) (hE:CK G E w) (i0:15 ∈ G) :
 Calls Tryz.prog 185 #[.agg #[.int .i64 x.e.cl,.int .i64 x.e.nu,.int .i64 x.e.kd,.int .i64 x.e.id,.int .i64 x.e.srv.k,.int .i64 x.e.srv.q,.int .i64 x.e.srv.t,.int .i64 x.e.po,.slice x.a x.e.tasks.length x.c,.int .i64 x.e.at_]] w fun e w' => e = .returned (Om E (FC x.e))∧Gr w w':=by
 have gw:=(Gr.refl w).alloc x.obj;have ho:=HI x.e x.a x.c _ (h.gr gw);have he:=(hE.gr gw).c0 i0;replace gw:=zH gw;unfold FC;by_cases hn:0≤x.e.cl∧x.e.cl < 16∧1≤x.e.nu∧x.e.nu≤1099511627776
 ·rw [decide_eq_true hn,Bool.true_and];obtain ⟨n1,n2,n3,n4⟩:=hn;cases hf:Gk x.e with
  | true =>
   rw [hf] at ho;replace ho:=zH ho;replace hf:=zH hf;clear h;go_enter Tryz.func185,Tryz.ntmps185;go_wp2_with fail;refine (ho.out).mono ?_;rintro e wa ⟨rfl,ga⟩;obtain ⟨ca,fa,sa⟩:=ga.cells;try simp only [Aa] at ca fa sa
   try simp only [zL] at ca fa sa
   try simp only [zD] at ca fa sa
   try simp only [zS] at ca fa sa
   have za0:w.heap.size < wa.heap.size:=by omega
   have ya0:w.heap.size≤wa.heap.size:=by omega
   have ka0:=fun o => ca (w.heap.size) o (by omega)
   have ja0:=fun o => fa (w.heap.size) o (by omega)
   go_wp2_with fail;go_ret;exact ⟨rfl,gw.out.trans ga⟩
  | false =>
   rw [hf] at ho;replace ho:=zH ho;replace hf:=zH hf;clear h;go_enter Tryz.func185,Tryz.ntmps185;go_wp2_with fail;refine (ho.out).mono ?_;rintro e wa ⟨rfl,ga⟩;obtain ⟨ca,fa,sa⟩:=ga.cells;try simp only [Aa] at ca fa sa
   try simp only [zL] at ca fa sa
   try simp only [zD] at ca fa sa
   try simp only [zS] at ca fa sa
   have za0:w.heap.size < wa.heap.size:=by omega
   have ya0:w.heap.size≤wa.heap.size:=by omega
   have ka0:=fun o => ca (w.heap.size) o (by omega)
   have ja0:=fun o => fa (w.heap.size) o (by omega)
   have hea:=(hE.gr (gw.out.trans ga)).c0 i0;go_wp2_with fail;go_ret;exact ⟨rfl,gw.out.trans ga⟩
 ·rw [decide_eq_false hn,Bool.false_and];clear h ho;by_cases n1:x.e.cl < 0
  ·clear hn;go_enter Tryz.func185,Tryz.ntmps185;go_wp2_with fail;go_ret;exact ⟨rfl,gw.out⟩
  ·by_cases n2:16≤x.e.cl
   ·clear hn;go_enter Tryz.func185,Tryz.ntmps185;go_wp2_with fail;go_ret;exact ⟨rfl,gw.out⟩
   ·by_cases n3:x.e.nu < 1
    ·clear hn;go_enter Tryz.func185,Tryz.ntmps185;go_wp2_with fail;go_ret;exact ⟨rfl,gw.out⟩
    ·have n4:1099511627776 < x.e.nu:=by omega
     clear hn;go_enter Tryz.func185,Tryz.ntmps185;go_wp2_with fail;go_ret;exact ⟨rfl,gw.out⟩
end Go.Proofs.YtdfelohjdkcpkaaGreatDoor
