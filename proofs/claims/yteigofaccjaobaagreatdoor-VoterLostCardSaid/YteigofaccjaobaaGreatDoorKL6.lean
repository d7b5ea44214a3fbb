/- A disk in memory; disk.New, check, Sectors, Lost, Waiting. -/
import Derived.Test.YteigofaccjaobaaGreatDoorKL5
import Derived.Deep.MidRow
import Derived.StillTail
import Derived.Laws.Cover3
import Derived.Great.BuildSlice
import Derived.Deep.RegionLaw
import Derived.Laws.CopyOwn
namespace Go.Proofs.YteigofaccjaobaaGreatDoor
open Go.RowKit
theorem owns_blk {w:World} {B:Nat} {e t:TypeId} {k:Nat} {v:Value} {n:Nat} {xs:List Value} {b:Nat} {cs:Array Value} (h:w.ownsRow B e k v n xs) (hb:Blk w b cs t) (he:e ≠ t):v.ownBlock ≠ some b:=by
 intro hg;rcases h.2 with ⟨h1,_⟩ | ⟨g1,c1,u1,h1,_,h3,_⟩
 ·rw [h1] at hg;cases hg
 ·rw [h1] at hg;simp [Value.ownBlock] at hg;subst hg;rw [show w.heap[g1]? = _ from hb] at h3;injection h3 with h4
  injection h4 with _ h5 _
  exact he h5.symm
def DskM.own (M:DskM) (db:Nat):List Nat:=db :: M.mb :: (M.ca.map (·.block)).toList
structure DskAt (w:World) (db:Nat) (M:DskM):Prop where
 b:Blk w db M.row 89
 s:SafeW w M.mb M.m M.D
 f:M.d.lost = false→SafeD M.D M.d.F
 c:w.ownsRow 0 146 65 (.slice M.ca M.d.C.length M.cc) M.d.C.length (M.d.C.flatMap wrC)
 ok:M.d.ok
theorem DskAt.grx {S:List Nat} {w w':World} {db:Nat} {M:DskM} (h:DskAt w db M) (g:GrX S w w') (hS:∀ b,b ∈ M.own db→b ∉ S):DskAt w' db M :=
 ⟨h.b.grx g (hS db (by simp [DskM.own])),owns_mgrx h.s g (hS _ (by simp [DskM.own])),h.f,owns_grx h.c g fun k hk => hS k (by
  cases hc:M.ca with
  | none => rw [hc] at hk;cases hk
  | some a => rw [hc] at hk;cases hk;simp [DskM.own,hc]),h.ok⟩
theorem DskAt.gr {w w':World} {db:Nat} {M:DskM} (h:DskAt w db M) (g:Gr w w'):DskAt w' db M:=h.grx (S:=[]) (g.x []) fun _ _ hb => by cases hb
theorem DskAt.lt {w:World} {db:Nat} {M:DskM} (h:DskAt w db M):∀ b ∈ M.own db,b < w.heap.size:=fun b hb => by
 rcases List.mem_cons.1 hb with rfl | hb
 ·exact h.b.lt
 rcases List.mem_cons.1 hb with rfl | hb
 ·exact h.s.lt
 cases hc:M.ca with
 | none => rw [hc] at hb;cases hb
 | some a =>
  rw [hc] at hb;rw [List.mem_singleton.1 (show b ∈ [a.block] from hb)];have:=h.c;rw [hc] at this;exact (owns_lt this _ rfl).1
theorem DskAt.cb {w:World} {db:Nat} {M:DskM} (h:DskAt w db M):(Value.slice M.ca M.d.C.length M.cc).ownBlock ≠ some db∧(Value.slice M.ca M.d.C.length M.cc).ownBlock ≠ some M.mb:=by
 refine ⟨owns_blk h.c h.b (by decide),fun hg => ?_⟩;obtain ⟨es,clock,hb,_⟩:=h.s;rcases h.c.2 with ⟨h1,_⟩ | ⟨g1,c1,u1,h1,_,h3,_⟩
 ·rw [h1] at hg;cases hg
 ·rw [h1] at hg;cases hg
  rw [hb] at h3;cases h3
theorem DskAt.dm {w:World} {db:Nat} {M:DskM} (h:DskAt w db M):db ≠ M.mb:=fun e => by
 obtain ⟨es,clock,hb,_⟩:=h.s;have hb2:=h.b;unfold Blk at hb2;rw [← e,hb2] at hb;cases hb
def DskP (db:Nat) (d:DskV) (M M':DskM) (w w':World):Prop:=M'.d = d∧DskAt w' db M'∧GrX (M.own db) w w'∧∀ b ∈ M'.own db,b ∈ M.own db ∨ w.heap.size≤b
def errW (E:Nat→Addr):Option Nat→Value
 | none => .nilIface
 | some g => .iface 297 (.pointer (some (E g)))
def DskV.chk (d:DskV) (i:Int):Option Nat:=if d.lost = true then some 0 else if i < 0 ∨ (d.n:Int)≤i then some 1 else none
theorem dcheck_any {G:List Nat} {E:Nat→Addr} (w:World) (hE:EAt G E w) (i0:0 ∈ G) (i1:1 ∈ G) {db:Nat} {M:DskM} (h:DskAt w db M) (i:Int) :
 Calls Tryz.prog 158 #[.pointer (some ⟨db,0,none⟩),.int .i64 i] w fun e w' => e = .returned (errW E (M.d.chk i))∧w' = w:=by
 have c0:=h.b.cell (i:=0) (v:=.int .i64 M.d.n) rfl;have c4:=h.b.cell (i:=4) (v:=.bool M.d.lost) rfl;have z:=h.b.lt;have e0:=hE.c0 i0;have e1:=hE.c0 i1;replace h:=Lib.hid h;obtain ⟨n,hn⟩:∃ n,n = M.d.n:=⟨_,rfl⟩
 unfold DskV.chk;rw [← hn] at c0 ⊢;replace hn:=Lib.hid hn;cases hl:M.d.lost with
 | true =>
  rw [hl] at c4;rw [if_pos rfl];replace hl:=Lib.hid hl;go_enter Tryz.func158,Tryz.ntmps158;go_wp2_with fail;go_ret;exact ⟨rfl,rfl⟩
 | false =>
  rw [hl] at c4;rw [if_neg (by decide)];replace hl:=Lib.hid hl;by_cases h1:i < 0
  ·have t1:decide (i < 0) = true:=decide_eq_true h1;rw [if_pos (.inl h1)];go_enter Tryz.func158,Tryz.ntmps158;go_wp2_with fail;go_ret;exact ⟨rfl,rfl⟩
  ·have t1:decide (i < 0) = false:=decide_eq_false h1;by_cases h2:(n:Int)≤i
   ·have t2:decide ((n:Int)≤i) = true:=decide_eq_true h2;rw [if_pos (.inr h2)];go_enter Tryz.func158,Tryz.ntmps158;go_wp2_with fail;go_ret;exact ⟨rfl,rfl⟩
   ·have t2:decide ((n:Int)≤i) = false:=decide_eq_false h2;rw [if_neg (by omega)];go_enter Tryz.func158,Tryz.ntmps158;go_wp2_with fail;go_ret;exact ⟨rfl,rfl⟩
theorem dsectors_any (w:World) {db:Nat} {M:DskM} (h:DskAt w db M):Calls Tryz.prog 114 #[.pointer (some ⟨db,0,none⟩)] w fun e w' => e = .returned (.int .i64 M.d.n)∧w' = w:=by
 have c0:=h.b.cell (i:=0) (v:=.int .i64 M.d.n) rfl;have z:=h.b.lt;replace h:=Lib.hid h;go_enter Tryz.func114,Tryz.ntmps114;go_wp2_with fail;go_ret;exact ⟨rfl,rfl⟩
theorem dlost_any (w:World) {db:Nat} {M:DskM} (h:DskAt w db M):Calls Tryz.prog 121 #[.pointer (some ⟨db,0,none⟩)] w fun e w' => e = .returned (.bool M.d.lost)∧w' = w:=by
 have c0:=h.b.cell (i:=4) (v:=.bool M.d.lost) rfl;have z:=h.b.lt;replace h:=Lib.hid h;go_enter Tryz.func121,Tryz.ntmps121;go_wp2_with fail;go_ret;exact ⟨rfl,rfl⟩
theorem dnew_any (w:World) (n:Nat) (h0:1≤n) (h1:n≤1024) :
 Calls Tryz.prog 11 #[.int .i64 n] w fun e w' => ∃ (db:Nat) (M:DskM),e = .returned (.tuple #[.pointer (some ⟨db,0,none⟩),.nilIface])∧M.d = newD n∧M.m = 0∧DskAt w' db M∧Gr w w'∧∀ b ∈ M.own db,w.heap.size≤b:=by
 have t0:¬ (n:Int) < 1:=by omega
 have t1:¬ (1024:Int) < n:=by omega
 have t0b:decide ((n:Int) < 1) = false:=decide_eq_false t0;have t1b:decide ((1024:Int) < n) = false:=decide_eq_false t1;have hmm:=@run_makeMap_plain;have hM:SafeW ((w.alloc (.map #[] 0)).alloc (.cells #[.int .i64 n,.map (some w.heap.size),.slice none 0 0,.int .i64 0,.bool false] 89)) w.heap.size 0 (.map []):=(World.ownsMap_made _ _ _ _).alloc _;have hB:Blk ((w.alloc (.map #[] 0)).alloc (.cells #[.int .i64 n,.map (some w.heap.size),.slice none 0 0,.int .i64 0,.bool false] 89)) (w.heap.size + 1) #[.int .i64 n,.map (some w.heap.size),.slice none 0 0,.int .i64 0,.bool false] 89:=Blk.new1 (by simp);go_enter Tryz.func11,Tryz.ntmps11;go_wp2_with fail;go_ret2;refine ⟨w.heap.size + 1,rfl,⟨newD n,w.heap.size,0,.map [],none,0,0⟩,rfl,rfl,⟨hB,hM,fun _ => SafeD.nil,World.ownsRow_nil _ _ _ _,newD_ok h0 h1⟩,((Gr.refl w).alloc _).alloc _,fun b hb => ?_⟩;simp [DskM.own] at hb;omega
theorem store_new (t:TypeId) (n:Nat) (cs:Array Value) (hs:cs.size = n) (hi:(Tryz.prog.info? t).map (·.size) = some n) (h1:cs.all (·.oneCell') = true) (w:World) (c:Array Value) (hc:c.size = n):(storeCells ⟨w.heap.size,0,none⟩ cs.toList).run Tryz.prog (w.alloc (.cells c t)) = .ok () (w.alloc (.cells cs t)) :=
 run_storeCells_new w t c cs (by rw [hs];exact hi) (by rw [hs,hc]) h1
theorem sec_one (b:List UInt8):(secC b).all (·.oneCell') = true:=by
 rw [Array.all_eq_true'];intro x hx;rw [List.mem_toArray] at hx;obtain ⟨d,_,hd⟩:=List.mem_flatMap.1 hx;exact byteC_one d x hd
theorem Blk.row {w:World} {b:Nat} {cs:Array Value} {t:TypeId} (h:Blk w b cs t) (ys:Array Value):Blk (w.setRow b ys) b ys t:=setRow_heap w b cs ys t (0,0) h
theorem GrX.row {S:List Nat} {a w:World} (h:GrX S a w) {b:Nat} (hb:b ∈ S ∨ a.heap.size≤b) (ys:Array Value):GrX S a (w.setRow b ys) :=
 ⟨h.os,h.tape,h.output,by rw [size_setRow];exact h.size,fun k hk hn => by
  rw [setRow_other w b k ys (fun e => by
   rw [e] at hk hn;rcases hb with hb | hb
   ·exact hn hb
   ·omega)]
  exact h.block k hk hn⟩
theorem store_row {w:World} {b:Nat} {cs:Array Value} {t:TypeId} (h:Blk w b cs t) (n:Nat) (ys:Array Value) (hs:ys.size = n) (hc:cs.size = n) (hi:(Tryz.prog.info? t).map (·.size) = some n) (h1:ys.all (·.oneCell') = true):(storeCells ⟨b,0,none⟩ ys.toList).run Tryz.prog w = .ok () (w.setRow b ys):=by
 have:=run_storeVar_row (P:=Tryz.prog) w b t t cs ys h (by rw [hs];exact hi) (by rw [hs,hc]) h1;cases hq:Tryz.prog.info? t with
 | none => rw [hq] at hi;cases hi
 | some i =>
  have hz:ys.size = i.size:=by rw [hq] at hi;simp at hi;omega
  simpa [storeVar,sizeOf,typeInfo,hq,Value.cells,hz] using this
theorem wr_one (x:Nat × List UInt8):(wrC x).toArray.all (·.oneCell') = true:=by
 rw [Array.all_eq_true'];intro y hy;exact wrC_one x y (by simpa using hy)
theorem bytes_row {w:World} {b:Nat} {l:List UInt8} {t:TypeId} (h:Blk w b (secC l) t):BytesAt w (some ⟨b,0,none⟩) l:=fun i s hi => ⟨b,0,rfl,h.lt,fun j v hv => by
 have hj:j < 1:=get_lt hv;obtain rfl:j = 0:=by omega
 refine h.cell ?_;rw [List.getElem?_toArray];have:=flat_get byteC_len l i s 0 v hi hv;simpa using this⟩
set_option maxRecDepth 100000 in
set_option maxHeartbeats 3200000 in
theorem dread_yes {G:List Nat} {E:Nat→Addr} (w:World) (hE:EAt G E w) (i0:0 ∈ G) (i1:1 ∈ G) {db:Nat} {M:DskM} (h:DskAt w db M) (i:Nat) (hi:i < M.d.n) (hl:M.d.lost = false) (hC:M.d.C.length≤1000000) :
 Calls Tryz.prog 152 #[.pointer (some ⟨db,0,none⟩),.int .i64 i] w fun e w' => ∃ b:Nat,e = .returned (.tuple #[.slice (some ⟨b,0,none⟩) 64 64,.nilIface])∧BytesAt w' (some ⟨b,0,none⟩) (M.d.now i)∧w.heap.size≤b∧Gr w w':=by
 obtain ⟨d,mb,m,D,ca,cc,wr⟩:=M;dsimp only at hi hl hC ⊢;have hck:=dcheck_any w hE i0 i1 h i;dsimp only at hck;have h1024:d.n≤1024:=h.ok.n1;have hch:d.chk i = none:=by
  unfold DskV.chk;rw [hl,if_neg (by decide),if_neg (by omega)]
 rw [hch] at hck;dsimp only [errW] at hck;obtain ⟨hlk,hFl⟩:=look_sec h.s (h.f hl) (i:=i) (by omega);obtain ⟨cs,hcs⟩:∃ cs,cs = secC (d.F i):=⟨_,rfl⟩
 have hsz:cs.size = 64:=by rw [hcs,secC_size,hFl]
 replace hlk:(Instr.lookup 86 (.map (some mb)) (.int .i64 i) false).run Tryz.prog w = .ok (.agg cs) w:=by rw [hcs];exact hlk
 have hst:=store_new 144 64 cs hsz (by kernel_rfl) (by rw [hcs];exact sec_one _);replace hcs:=Lib.hid hcs;have c1:=h.b.cell (i:=1) (v:=.map (some mb)) rfl;have c2:=h.b.cell (i:=2) (v:=.slice ca d.C.length cc) rfl;have z:=h.b.lt;replace hck:=Lib.hid hck;replace h:=Lib.hid h;replace hch:=Lib.hid hch;go_enter Tryz.func152,Tryz.ntmps152;go_wp2_with fail;refine hck.out.mono ?_;rintro e w1 ⟨rfl,rfl⟩;obtain ⟨W,hW⟩:∃ W,W = w1.alloc (.cells cs 144):=⟨_,rfl⟩
 have gW:Gr w1 W:=by rw [hW];exact (Gr.refl _).alloc _
 have hB:Blk W w1.heap.size (secC (nowC ([]:List (Nat × List UInt8)) i (d.F i))) 144:=by rw [hW,hcs.out];exact Blk.new _ _ _
 replace hB:=Lib.hid hB;replace hW:=Lib.hid hW;obtain ⟨zc,hzz,hzc⟩:∃ zc:Array Value,zc.size = 65∧∀ w,(zeroValue 146).run Tryz.prog w = .ok (.agg zc) w:=by
  obtain ⟨i5,hi5,hz0,hz1,hz2⟩:=info_parts Tryz.infoWr;refine ⟨(wrC (0,zeroS)).toArray,by rw [List.size_toArray,wrC_len],fun w => ?_⟩;simp [zeroValue,typeInfo,hi5,hz0]
 go_upto_region 5 with fail
 rw [← hW.out];clear c1 c2;have hbW:=(h.out.gr gW).b;have c2:=hbW.cell (i:=2) (v:=.slice ca d.C.length cc) rfl;have zW:=hbW.lt;replace hbW:=Lib.hid hbW;go_wp2_with fail;go_loopw [27] (fun iv wr => ∃ k:Nat,k≤d.C.length∧iv = .int .i64 k∧Hid (Blk wr w1.heap.size (secC (nowC (d.C.take k) i (d.F i))) 144)∧Gr w1 wr) (fun iv _ => d.C.length - (intOf iv).toNat);case atStart => exact ⟨0,Nat.zero_le _,rfl,hB,gW⟩
 case round =>
  obtain ⟨k,hk,rfl,hS,hg⟩:=hrel;obtain ⟨wo,rfl⟩:∃ wo:World,wo = wr:=⟨wr,rfl⟩
  by_cases hlt:k < d.C.length
  ·obtain ⟨x,hx⟩:=get_some d.C k hlt;have hxm:=h.out.ok.c x (get_mem hx);have nowT_len:(nowC (d.C.take k) i (d.F i)).length = 64:=nowC_len (h.out.ok.f i) fun y hy => (h.out.ok.c y (List.mem_of_mem_take hy)).2
   obtain ⟨a0,c0,e0,hrec,-,-⟩:=recs_of_owns wrC_len (owns_gr h.out.c hg);obtain ⟨rfl,-,rfl⟩:a0 = ca∧True∧c0 = cc:=by injection e0 with p q r;exact ⟨p.symm,trivial,r.symm⟩
   obtain ⟨b,off,hag,hb,hcl⟩:=hrec k x hx;subst hag;obtain ⟨xs,hxs⟩:∃ xs,xs = (wrC x).toArray:=⟨_,rfl⟩
   have hrg:wo.rangeAt b (off + k * 65) (wrC x):=hcl;have hxz:xs.size = 65:=by rw [hxs,List.size_toArray,wrC_len]
   have hsx:=store_new 146 65 xs hxz (by kernel_rfl) (by rw [hxs];exact wr_one x);obtain ⟨wb,hwb⟩:∃ wb,wb = wo.alloc (.cells xs 146):=⟨_,rfl⟩
   have gb:Gr wo wb:=by rw [hwb];exact (Gr.refl _).alloc _
   have hX:Blk wb wo.heap.size xs 146:=by rw [hwb];exact Blk.new _ _ _
   have x0:=hX.cell (i:=0) (v:=.int .i64 x.1) (by rw [hxs];rfl);have zX:=hX.lt;have hSb:=hS.out.gr gb;have hgb:=hg.trans gb;have hcf:nowC (d.C.take (k + 1)) i (d.F i) = if x.1 = i then x.2 else nowC (d.C.take k) i (d.F i):=by rw [take_snoc hx,nowC_snoc]
   replace hwb:=Lib.hid hwb;replace hX:=Lib.hid hX;replace hSb:=Lib.hid hSb;replace hcf:=Lib.hid hcf;replace hx:=Lib.hid hx;clear hcl;replace hrg:=Lib.hid hrg;have hwl:(Tryz.prog.info? 146).map (·.size) = some (wrC x).length:=by rw [wrC_len];kernel_rfl
   replace hxs:=Lib.hid hxs;go_upto_region 8 with (refine wpList_load_mid rfl 146 _ rfl b (off + k * 65) rfl (wrC x) _ hrg.out Tryz.underlying146 rfl hwl ?_;rw [← hxs.out])
   rw [← hwb.out];clear hsx;by_cases hxi:x.1 = i
   ·have e3:((x.1:Int) == (i:Int)) = true:=by simp [hxi]
    obtain ⟨ys,hys⟩:∃ ys,ys = (x.2.flatMap byteC).toArray:=⟨_,rfl⟩
    have hyz:ys.size = 64:=by rw [hys];exact (secC_size x.2).trans hxm.2
    have hly:wb.rangeAt wo.heap.size 1 (x.2.flatMap byteC):=fun j v hv => hX.out.cell (by
     rw [hxs.out,← hv,List.getElem?_toArray,Nat.add_comm,List.getElem?_cons_succ,pad_of hxm.2])
    have hsy:=store_row hSb.out 64 ys hyz (by rw [secC_size];exact nowT_len) (by kernel_rfl) (by rw [hys];exact sec_one x.2);have hsl:(Tryz.prog.info? 144).map (·.size) = some (x.2.flatMap byteC).length:=by rw [flat_len byteC_len,hxm.2];kernel_rfl
    replace hly:=Lib.hid hly;replace hys:=Lib.hid hys;obtain ⟨wz,hwz⟩:∃ wz,wz = wb.setRow w1.heap.size ys:=⟨_,rfl⟩
    have gx:GrX [w1.heap.size] wb wz:=by rw [hwz];exact (GrX.refl _ _).row (.inl (by simp)) _
    have hgz:Gr w1 wz:=gx.all hgb (fun y hy => by rw [List.mem_singleton.1 hy];exact Nat.le_refl _);have hSz:Blk wz w1.heap.size (secC (nowC (d.C.take (k + 1)) i (d.F i))) 144:=by
     rw [hcf.out,if_pos hxi,hwz];have:=hSb.out.row ys;have h2:secC x.2 = ys:=hys.out.symm;rw [h2];exact this
    rw [← hwz] at hsy;replace hwz:=Lib.hid hwz;replace gx:=Lib.hid gx;replace hSz:=Lib.hid hSz;replace hxi:=Lib.hid hxi;go_wp2_with (refine wpList_load_mid rfl 144 _ rfl wo.heap.size 1 rfl (x.2.flatMap byteC) _ hly.out Tryz.underlying144 rfl hsl ?_;rw [← hys.out]);go_roundw;case rel => exact ⟨k + 1,by omega,by go_num,hSz,hgz⟩
    case measure => simp [intOf];omega
   ·have e3:((x.1:Int) == (i:Int)) = false:=beq_eq_false_iff_ne.2 (by omega);have hSz:Blk wb w1.heap.size (secC (nowC (d.C.take (k + 1)) i (d.F i))) 144:=by
     rw [hcf.out,if_neg hxi];exact hSb.out
    replace hSz:=Lib.hid hSz;replace hxi:=Lib.hid hxi;go_wp2_with fail;go_roundw;case rel => exact ⟨k + 1,by omega,by go_num,hSz,hgb⟩
    case measure => simp [intOf];omega
  ·have hke:k = d.C.length:=by omega
   have hkb:decide ((k:Int) < d.C.length) = false:=decide_eq_false (by omega);have hBy:BytesAt wo (some ⟨w1.heap.size,0,none⟩) (d.now i):=by
    have h1:=hS.out;rw [hke,List.take_length] at h1;exact bytes_row h1
   replace hke:=Lib.hid hke;replace hBy:=Lib.hid hBy;go_wp2_with fail;go_ret2;exact ⟨w1.heap.size,rfl,hBy.out,Nat.le_refl _,hg⟩
end Go.Proofs.YteigofaccjaobaaGreatDoor
namespace Go.Proofs.YteigofaccjaobaaGreatDoor
section
variable {P:Program} {ops:Array Oper} {Q:Exit→Act→World→Prop} {md:Region.Mode} {S:World→Prop}
def wpAnyZ (P:Program) (md:Region.Mode) (ops:Array Oper) (Q:Exit→Act→World→Prop) (S:World→Prop) (z:Nat):Nat→Array Bool→Act→World→Prop
 | 0,listed,a,w => Region.ready md ops listed = []∧Q .normal a w
 | fuel + 1,listed,a,w =>
  (Region.ready md ops listed = []→Q .normal a w) ∧
  ∀ i ∈ Region.ready md ops listed,wpOp P ops Q i (fun a' w' => (i ≠ z→S w')∧wpAnyZ P md ops Q S z fuel (listed.setIfInBounds i true) a' w') a w
theorem wpAny_of_Z {z:Nat}:∀ (fuel:Nat) (listed:Array Bool) (a:Act) (w:World),wpAnyZ P md ops Q S z fuel listed a w→wpAny P md ops Q fuel listed a w
 | 0,_,_,_,h => h
 | fuel + 1,_,_,_,h => ⟨h.1,fun i hi => wpOp_mono (fun a' w' h' => wpAny_of_Z fuel _ a' w' h'.2) (h.2 i hi)⟩
theorem wpAnyZ_first {z i:Nat} {oi:Oper} {v:Value} (hi:ops[i]? = some oi) (hsel:∀ (j:Nat) (o:Oper) cs b,ops[j]? = some o→o.op ≠ .select cs b)
 (hQ:∀ c a w,Q (.panic c) (a.put oi.dst v) w→Q (.panic c) a w) (hz:Region.waitsFor md ops z i = true) :
 ∀ (fuel:Nat) (listed:Array Bool) (a:Act) (w:World),
  (∀ j oj,ops[j]? = some oj→j ≠ i→listed.getD j true = false→(∀ e ∈ oj.after,Region.binds md e = true→e.on ≠ i)→oi.apart ops oj = true) →
  i ∈ Region.ready md ops listed→YieldsIf P ops S oi v a→S w →
  wpAnyZ P md ops Q S z fuel (listed.setIfInBounds i true) (a.put oi.dst v) w→wpAnyZ P md ops Q S z (fuel + 1) listed a w:=by
 intro fuel;induction fuel with
 | zero =>
  intro listed a w _ hr hy hS H;refine ⟨fun h => (by rw [h] at hr;cases hr),fun j hj => ?_⟩;by_cases hji:j = i
  ·subst hji;exact hy.wpOp hi hS ⟨fun _ => hS,H⟩
  ·have:=ready_mono hj hji;rw [H.1] at this;cases this
 | succ fuel ih =>
  intro listed a w hfree hr hy hS H;refine ⟨fun h => (by rw [h] at hr;cases hr),fun j hj => ?_⟩;by_cases hji:j = i
  ·subst hji;exact hy.wpOp hi hS ⟨fun _ => hS,H⟩
  ·have h1:=H.2 j (ready_mono hj hji);obtain ⟨hjun,oj,hoj,hall⟩:=mem_ready.1 hj;have hnot:∀ e ∈ oj.after,Region.binds md e = true→e.on ≠ i:=fun e he hb heq => by
    have h1:=hall e he hb;have h0:=(mem_ready.1 hr).1;rw [heq] at h1;rcases Nat.lt_or_ge i listed.size with h' | h'
    ·simp [h'] at h0 h1;rw [h0] at h1;cases h1
    ·simp [Array.getElem?_eq_none h'] at h1
   have hjz:j ≠ z:=fun e => by
    subst e;obtain ⟨oz,hoz,e,he,hb,hon⟩:=Region.waitsFor_spec hz;have:oz = oj:=Option.some.inj (hoz.symm.trans hoj);subst this;exact hnot e he hb hon
   have h2:=wpOp_putIf hoj (hfree j oj hoj hji hjun hnot) (fun cs b => hsel i oi cs b hi) (fun cs b => hsel j oj cs b hoj) hQ hy h1;have hfree':∀ k ok,ops[k]? = some ok→k ≠ i→(listed.setIfInBounds j true).getD k true = false →
    (∀ e ∈ ok.after,Region.binds md e = true→e.on ≠ i)→oi.apart ops ok = true:=fun k ok hk hki hun hno => by
    refine hfree k ok hk hki ?_ hno;by_cases hjk:j = k
    ·subst hjk;exact hjun
    ·rw [getD_set_ne true hjk] at hun;exact hun
   refine wpOp_mono (fun a' w' h3 => ⟨h3.2.1,ih (listed.setIfInBounds j true) a' w' hfree' (ready_mono hr (Ne.symm hji)) h3.1 (h3.2.1 hjz) ?_⟩) h2;rw [Array.setIfInBounds_comm _ _ hji];exact h3.2.2
theorem wpAnyZ_take {z i:Nat} {oi:Oper} {v:Value} {fuel:Nat} {listed:Array Bool} {a:Act} {w:World} (hi:ops[i]? = some oi)
 (hs:Region.noSelect ops = true) (hf:Region.free md ops listed i = true) (hr:(Region.ready md ops listed).contains i = true) (hz:Region.waitsFor md ops z i = true)
 (hQ:∀ c a w,Q (.panic c) (a.put oi.dst v) w→Q (.panic c) a w) (hw:Region.wanted oi (yielded ops a.tmps) = true) (hy:∀ w,S w→(execOp a.eval oi).run P w = .ok (.value v) w) (hS:S w)
 (h:wpAnyZ P md ops Q S z fuel (listed.setIfInBounds i true) (a.put oi.dst v) w):wpAnyZ P md ops Q S z (fuel + 1) listed a w :=
 wpAnyZ_first hi (Region.noSelect_spec hs) hQ hz fuel listed a w (Region.free_spec hi hf) (by simpa using hr) (.inl ⟨hw,hy⟩) hS h
theorem wpAnyZ_one {z i:Nat} {o:Oper} {fuel:Nat} {listed:Array Bool} {a:Act} {w:World} (hr:Region.ready md ops listed = [i]) (ho:ops[i]? = some o)
 (h:∀ K':Act→World→Prop,Shut (∀ a w,(i ≠ z→S w)→wpAnyZ P md ops Q S z fuel (listed.setIfInBounds i true) a w→K' a w)→if Region.wanted o (yielded ops a.tmps) = true then Oper.wp P o a w K' Q else K' (a.put o.dst undef) w):wpAnyZ P md ops Q S z (fuel + 1) listed a w :=
 ⟨fun h0 => absurd (hr ▸ h0) (by simp),fun j hj => by
  rw [hr] at hj;obtain rfl:j = i:=by simpa using hj
  exact wpOp_step ho (fun K' hK => h K' (fun a w hS hW => hK a w ⟨hS,hW⟩))⟩
theorem wpAnyZ_done {z:Nat} {listed:Array Bool} {a:Act} {w:World} (hr:Region.ready md ops listed = []) (h:Q .normal a w) :
 ∀ fuel,wpAnyZ P md ops Q S z fuel listed a w
 | 0 => ⟨hr,h⟩
 | _ + 1 => ⟨fun _ => h,by rw [hr];simp⟩
theorem wp_region_Z {id:Nat} (z:Nat) (S:World→Prop) {a:Act} {w:World} (hm:P.follows .mixedOrders = true)
 (h:wpAnyZ P .any ops (NoPanic Q) S z ops.size (Array.replicate ops.size false) a w.drew):(Code.region id ops true).wp P Q a w :=
 wp_region_noPanic (wp_region_any hm (wpAny_of_Z _ _ _ _ h))
end
end Go.Proofs.YteigofaccjaobaaGreatDoor
namespace Go.Proofs.YteigofaccjaobaaGreatDoor
open Go.RowKit
theorem wp_append_at {P:Program} {w:World} {o:Oper} {a:Act} {K:Act→World→Prop} {Q:Exit→Act→World→Prop} (s x:Operand) (t:TypeId)
 (ho:o.op = .call { callee:=.builtin .append,args:=#[s,x],argTypes:=#[t,t] })
 (base:Nat) (e:TypeId) (i:TypeInfo) (z:Value) (size bytes:Nat) (ht:P.underlying t = some (.slice e)) (hi:P.info? e = some i) (hz:i.zero = some z)
 (hsize:i.size = size) (hby:i.bytes = bytes) (hzs:z.cells.size = size) (hsz:0 < size)
 (v:Value) (n:Nat) (xs:List Value) (hs:a.eval s = v) (hown:w.ownsRow base e size v n xs)
 (ad:Addr) (m c:Nat) (news:List Value) (hx:a.eval x = .slice (some ad) m c) (hl:news.length = m * size) (hnews:∀ j u,news[j]? = some u→w.cell? (ad.add j) = some u) (h1:∀ u ∈ news,u.oneCell' = true)
 (h63:n + m≤maxLen) (hbytes:(n + m) * bytes≤140737488355328) (hbase:base≤w.heap.size)
 (h:∀ v' w',w'.ownsRow base e size v' (n + m) (xs ++ news)→w.grownBy w' v.ownBlock→(v'.ownBlock = v.ownBlock ∨ v'.ownBlock = some w.heap.size)→K (a.put o.dst v') w'):o.wp P a w K Q:=by
 obtain ⟨v',w',hr,h2,h3,_,h5⟩:=run_append_own_at (P:=P) (w:=w) base t o.type e i z size bytes ht hi hz hsize hby hzs hsz v n xs hown ad m c news hl hnews h1 h63 hbytes hbase;unfold Oper.wp execOp;simp only [ho,resolve,invoke,builtin,Sem.run_bind,Sem.run_pure,Result.andThen_ok,List.map_toArray,List.map_cons,List.map_nil,hs,hx,hr];exact h v' w' h2 h3 h5
theorem step_append_at {α:Type} {k:Nat} {enc:α→List Value} {P:Program} {ops:Array Oper} {o:Oper} {a:Act} {w:World} {K:Act→World→Prop} {Q:Exit→Act→World→Prop} {E:Prop} (hgd:o.guard = none) (s x:Operand) (t:TypeId)
 (ho:o.op = .call { callee:=.builtin .append,args:=#[s,x],argTypes:=#[t,t] })
 (base:Nat) (e:TypeId) (i:TypeInfo) (z:Value) (bytes:Nat) (ht:P.underlying t = some (.slice e)) (hi:P.info? e = some i) (hz:i.zero = some z)
 (hsize:i.size = k) (hby:i.bytes = bytes) (hzs:z.cells.size = k) (hsz:0 < k)
 (hk:∀ s,(enc s).length = k) (h1:∀ s,∀ u ∈ enc s,u.oneCell' = true)
 (v:Value) (l0:List α) (hs:a.eval s = v) (hown:w.ownsRow base e k v l0.length (l0.flatMap enc))
 (ad:Addr) (m c:Nat) (l:List α) (hm:l.length = m) (hx:a.eval x = .slice (some ad) m c) (hl:RecsAt k enc w (some ad) l)
 (h63:l0.length + m≤maxLen) (hbytes:(l0.length + m) * bytes≤140737488355328) (hbase:base≤w.heap.size)
 (h:∀ v' w',w'.ownsRow base e k v' (l0 ++ l).length ((l0 ++ l).flatMap enc)→w.grownBy w' v.ownBlock→(v'.ownBlock = v.ownBlock ∨ v'.ownBlock = some w.heap.size)→K (a.put o.dst v') w') :
 if Region.wanted o (yielded ops a.tmps) = true then Oper.wp P o a w K Q else E:=by
 subst hm;have hw:Region.wanted o (yielded ops a.tmps) = true:=by simp [Region.wanted,hgd]
 rw [if_pos hw];refine wp_append_at s x t ho base e i z k bytes ht hi hz hsize hby hzs hsz v l0.length (l0.flatMap enc) hs hown ad l.length c (l.flatMap enc) hx (flat_len hk l) ?_ ?_ h63 hbytes hbase ?_
 ·intro j u hj;obtain ⟨y,hy,hu⟩:=flat_at hk hsz l j u hj;obtain ⟨b,off,hh,_,hcell⟩:=hl _ y hy;obtain rfl:=Option.some.inj hh;have:=hcell _ u hu;have e1:off + j / k * k + j % k = off + j:=by rw [Nat.add_assoc,Nat.mul_comm,Nat.div_add_mod]
  rw [e1] at this;unfold Addr.add;by_cases hj0:j = 0
  ·subst hj0;simpa using this
  ·simpa [hj0] using this
 ·intro u hu;obtain ⟨y,_,hy⟩:=List.mem_flatMap.1 hu;exact h1 y u hy
 ·intro v' w' ho' hg' hat;exact h v' w' (by simpa using ho') hg' hat
theorem load_op {P:Program} {w:World} {op:Oper} {ev:Operand→Value} {ty:TypeId} {x:Operand} (ho:op.op = .load ty x) {b o:Nat} (hx:ev x = .pointer (some ⟨b,o,none⟩)) {cs:List Value} {d:TypeDesc} (hc:w.rangeAt b o cs)
 (hu:P.underlying ty = some d) (hd:d.isRow = true) (hi:(P.info? ty).map (·.size) = some cs.length):(execOp ev op).run P w = .ok (.value (.agg cs.toArray)) w:=by
 unfold execOp;simp only [ho,hx,Instr.loadAt,Instr.sureAddr,Sem.run_bind,Sem.run_pure,Result.andThen_ok,run_loadVar_mid w b o ty cs d hc hu hd hi]
theorem fold_tail (v:Value) (lc:List Value) (z:Array Value) (hz:z.size = 1 + lc.length):lc.zipIdx.foldl (fun cs x => cs.setIfInBounds (1 + x.2) x.1) (z.setIfInBounds 0 v) = (v :: lc).toArray:=by
 obtain ⟨g1,g2⟩:=Great.foldl_set 1 lc 0 (z.setIfInBounds 0 v);apply Array.ext_getElem?;intro k;rw [g2 k];have e9:(v :: lc).toArray[k]? = (v :: lc)[k]?:=by simp
 rw [e9];cases k with
 | zero => rw [if_neg (by omega),List.getElem?_cons_zero,Array.getElem?_setIfInBounds_self_of_lt (by omega)]
 | succ k =>
  rw [List.getElem?_cons_succ,Array.size_setIfInBounds,hz];by_cases hk:k < lc.length
  ·rw [if_pos (by omega)];congr 1
  ·rw [if_neg (by omega),List.getElem?_eq_none (by omega),Array.getElem?_eq_none (by rw [Array.size_setIfInBounds,hz];omega)]
theorem fold_all (xs:List Value) (z:Array Value) (hz:z.size = xs.length):xs.zipIdx.foldl (fun cs x => cs.setIfInBounds x.2 x.1) z = xs.toArray:=by
 obtain ⟨g1,g2⟩:=Great.foldl_set 0 xs 0 z;have e0:(fun (cs:Array Value) (x:Value × Nat) => cs.setIfInBounds (0 + x.2) x.1) = fun cs x => cs.setIfInBounds x.2 x.1:=by funext cs x;rw [Nat.zero_add]
 rw [e0] at g2;apply Array.ext_getElem?;intro k;rw [g2 k];have e9:xs.toArray[k]? = xs[k]?:=by simp
 rw [e9];by_cases hk:k < xs.length
 ·rw [if_pos (by omega)];congr 1
 ·rw [if_neg (by omega),List.getElem?_eq_none (by omega),Array.getElem?_eq_none (by omega)]
set_option maxRecDepth 100000 in
set_option maxHeartbeats 3200000 in
theorem dwrite_yes {G:List Nat} {E:Nat→Addr} (w:World) (hE:EAt G E w) (i0:0 ∈ G) (i1:1 ∈ G) {db:Nat} {M:DskM} (h:DskAt w db M) (i:Nat) (hi:i < M.d.n) (hl:M.d.lost = false) (hC:M.d.C.length≤1000000) (sb so cb:Nat) (l:List UInt8) (hB:BytesAt w (some ⟨sb,so,none⟩) l) (hbl:l.length = 64) (hsb:sb ∉ M.own db) :
 Calls Tryz.prog 120 #[.pointer (some ⟨db,0,none⟩),.int .i64 i,.slice (some ⟨sb,so,none⟩) l.length cb] w fun e w' => ∃ M',e = .returned .nilIface∧DskP db (M.d.write i l) M M' w w'∧M'.m = M.m:=by
 obtain ⟨d,mb,m,D,ca,cc,wr⟩:=M;dsimp only at hi hl hC ⊢;have hcd:=h.cb;dsimp only at hcd;have hck:=dcheck_any w hE i0 i1 h i;have h1024:d.n≤1024:=h.ok.n1;have hch:d.chk i = none:=by
  unfold DskV.chk;rw [hl,if_neg (by decide),if_neg (by omega)]
 dsimp only at hck;rw [hch] at hck;dsimp only [errW] at hck;have c2:=h.b.cell (i:=2) (v:=.slice ca d.C.length cc) rfl;have c3:=h.b.cell (i:=3) (v:=.int .i64 wr) rfl;have f2:=h.b.free 2;have f3:=h.b.free 3;have z:=h.b.lt;rw [hbl];have hat:∀ w,(Instr.arrayAt 144 (.slice (some ⟨sb,so,none⟩) 64 cb)).run Tryz.prog w = .ok (.pointer (some ⟨sb,so,none⟩)) w:=fun w => run_arrayAt w 144 _ 64 _ 64 cb Tryz.underlying144 (Nat.le_refl _)
 have hrg:∀ w':World,BytesAt w' (some ⟨sb,so,none⟩) l→w'.rangeAt sb so (l.flatMap byteC):=fun w' hb j v hv => by
  have hj:j < 64:=by have:=get_lt hv;rw [flat_len byteC_len,Nat.mul_one,hbl] at this;exact this
  obtain ⟨x,hx⟩:=get_some l j (by omega);have:=flat_get byteC_len l j x 0 _ hx rfl;rw [Nat.mul_one,Nat.add_zero,hv] at this;obtain ⟨_,hc⟩:=hb.at' hx;rw [hc];exact this.symm ▸ rfl
 obtain ⟨lc,hlc⟩:∃ lc,lc = l.flatMap byteC:=⟨_,rfl⟩
 have hll:lc.length = 64:=by rw [hlc,flat_len byteC_len,hbl]
 have hu72:Tryz.prog.underlying 144 = some (.array 64 5):=Tryz.underlying144;have hi72:(Tryz.prog.info? 144).map (·.size) = some lc.length:=by rw [hll];kernel_rfl
 rw [← hlc] at hrg;obtain ⟨xl,hxl⟩:∃ xl,xl = (Value.int .i64 i :: lc):=⟨_,rfl⟩
 have hxz:xl.length = 65:=by rw [hxl,List.length_cons,hll]
 have hft:∀ z:Array Value,z.size = 65→lc.zipIdx.foldl (fun cs x => cs.setIfInBounds (1 + x.2) x.1) (z.setIfInBounds 0 (.int .i64 i)) = xl.toArray:=fun z hz => by rw [hxl];exact fold_tail _ lc z (by omega)
 have hfa:∀ z:Array Value,z.size = 65→xl.zipIdx.foldl (fun cs x => cs.setIfInBounds x.2 x.1) z = xl.toArray:=fun z hz => fold_all xl z (by omega)
 have hzc:Tryz.zeroCells146.size = 65:=by kernel_rfl
 have hxw:xl = wrC (i,l):=by rw [hxl,hlc];show _ = _ :: (pad l).flatMap byteC;rw [pad_of hbl]
 obtain ⟨i5,hi5,hz0,hz1,hz2⟩:=info_parts Tryz.infoWr;have hrs:RecsAt 65 wrC (w.alloc (.cells xl.toArray 146)).drew (some ⟨w.heap.size,0,none⟩) [(i,l)]:=recs_alloc1 wrC_len w rfl [(i,l)] _ _ (by rw [hxw];simp);have hown:=owns_gr h.c (((Gr.refl w).alloc (.cells xl.toArray 146)).drew);have hr2:=hrg (w.alloc (.cells xl.toArray 146)).drew (hB.gr (((Gr.refl w).alloc _).drew));replace hxl:=Lib.hid hxl;replace hxw:=Lib.hid hxw;replace hrs:=Lib.hid hrs;replace hown:=Lib.hid hown;replace hlc:=Lib.hid hlc;replace hbl:=Lib.hid hbl;replace hck:=Lib.hid hck;replace h:=Lib.hid h;replace hch:=Lib.hid hch;go_enter Tryz.func120,Tryz.ntmps120;go_wp2_with fail;refine hck.out.mono ?_;rintro e w1 ⟨rfl,rfl⟩;have hr1:=hrg w1 hB;have hcs:(Value.slice ca d.C.length cc).ownBlock ≠ some sb:=fun e => by
  refine hsb ?_;cases ca with
  | none => cases e
  | some a => cases e;simp [DskM.own]
 have hBd:=h.out.b;have c22:=(hBd.gr (((Gr.refl w1).alloc (.cells xl.toArray 146)).drew)).cell (i:=2) (v:=.slice ca d.C.length cc) rfl;replace hrg:=Lib.hid hrg;replace hcd:=Lib.hid hcd;replace hcs:=Lib.hid hcs;replace hBd:=Lib.hid hBd;replace hB:=Lib.hid hB;go_upto_region 6 with fail
 refine wp_region_Z 14 (fun w' => w'.rangeAt sb so lc∧w'.cell? ⟨db,2,none⟩ = some (.slice ca d.C.length cc)) (by kernel_rfl) ?_;have hS0:(fun w' => w'.rangeAt sb so lc∧w'.cell? ⟨db,2,none⟩ = some (.slice ca d.C.length cc)) w1.drew:=⟨hrg.out _ (hB.out.gr ((Gr.refl w1).drew)),c2⟩
 refine wpAnyZ_take (i:=0) (v:=?v0) rfl (by kernel_rfl) (by kernel_rfl) (by kernel_rfl) (by kernel_rfl) (fun _ _ _ h => h) (by rfl) ?y0 hS0 ?r0;case y0 => (intro w hSw;(try dsimp only at hSw);go_simp;try with_reducible rfl)
 try simp only [Act.put,List.setIfInBounds_toArray]
 refine wpAnyZ_take (i:=1) (v:=?v1) rfl (by kernel_rfl) (by kernel_rfl) (by kernel_rfl) (by kernel_rfl) (fun _ _ _ h => h) (by rfl) ?y1 hS0 ?r1;case y1 => (intro w hSw;(try dsimp only at hSw);go_simp;try with_reducible rfl)
 try simp only [Act.put]
 refine wpAnyZ_take (i:=2) (v:=?v2) rfl (by kernel_rfl) (by kernel_rfl) (by kernel_rfl) (by kernel_rfl) (fun _ _ _ h => h) (by rfl) ?y2 hS0 ?r2;case y2 => (intro w hSw;(try dsimp only at hSw);go_simp;try with_reducible rfl)
 try simp only [Act.put]
 refine wpAnyZ_take (i:=3) (v:=?v3) rfl (by kernel_rfl) (by kernel_rfl) (by kernel_rfl) (by kernel_rfl) (fun _ _ _ h => h) (by rfl) ?y3 hS0 ?r3;case y3 => (intro w hSw;(try dsimp only at hSw);go_simp;try with_reducible rfl)
 try simp only [Act.put]
 refine wpAnyZ_take (i:=4) (v:=?v4) rfl (by kernel_rfl) (by kernel_rfl) (by kernel_rfl) (by kernel_rfl) (fun _ _ _ h => h) (by rfl) ?y4 hS0 ?r4;case y4 => (intro w hSw;(try dsimp only at hSw);go_simp;try with_reducible rfl)
 try simp only [Act.put]
 refine wpAnyZ_take (i:=5) (v:=?v5) rfl (by kernel_rfl) (by kernel_rfl) (by kernel_rfl) (by kernel_rfl) (fun _ _ _ h => h) (by rfl) ?y5 hS0 ?r5;case y5 => (intro w hSw;(try dsimp only at hSw);go_simp;try with_reducible rfl)
 try simp only [Act.put]
 refine wpAnyZ_take (i:=6) (v:=?v6) rfl (by kernel_rfl) (by kernel_rfl) (by kernel_rfl) (by kernel_rfl) (fun _ _ _ h => h) (by rfl) ?y6 hS0 ?r6;case y6 => (intro w hSw;(try dsimp only at hSw);go_simp;try with_reducible rfl)
 try simp only [Act.put]
 refine wpAnyZ_take (i:=7) (v:=?v7) rfl (by kernel_rfl) (by kernel_rfl) (by kernel_rfl) (by kernel_rfl) (fun _ _ _ h => h) (by rfl) ?y7 hS0 ?r7;case y7 => (intro w hSw;(try dsimp only at hSw);go_simp;try with_reducible rfl)
 try simp only [Act.put]
 refine wpAnyZ_take (i:=8) (v:=?v8) rfl (by kernel_rfl) (by kernel_rfl) (by kernel_rfl) (by kernel_rfl) (fun _ _ _ h => h) (by rfl) ?y8 hS0 ?r8;case y8 => (intro w' hSw;refine load_op (x:=.tmp 25) ?_ ?_ hSw.1 hu72 rfl hi72 <;> rfl)
 try simp only [Act.put]
 refine wpAnyZ_take (i:=9) (v:=?v9) rfl (by kernel_rfl) (by kernel_rfl) (by kernel_rfl) (by kernel_rfl) (fun _ _ _ h => h) (by rfl) ?y9 hS0 ?r9;case y9 => (intro w hSw;(try dsimp only at hSw);go_simp;try with_reducible rfl)
 try simp only [Act.put]
 clear hS0;refine wpAnyZ_one (i:=10) (by kernel_rfl) rfl (fun K hK => ?_);go_simp;refine hK.out _ _ (fun _ => ⟨hr2,c22⟩) ?_;clear hK K;try simp only [Act.put,List.setIfInBounds_toArray,List.set_cons_zero,List.set_cons_succ]
 refine wpAnyZ_one (i:=11) (by kernel_rfl) rfl (fun K hK => ?_);refine step_append_at (k:=65) (enc:=wrC) (by rfl) _ _ 87 (by rfl) 0 146 i5 _ 72 Tryz.underlying87 hi5 hz0 hz1 hz2 rfl (by decide) wrC_len wrC_one (.slice ca d.C.length cc) d.C (by rfl) hown.out ⟨w1.heap.size,0,none⟩ 1 1 [(i,l)] rfl (by rfl) hrs.out (by unfold maxLen;omega) (by omega) (Nat.zero_le _) ?_;intro v9 w9 hown9 hgr9 hat9;obtain ⟨a9,c9,e9,-,-,-⟩:=recs_of_owns wrC_len hown9;subst e9;have g9:Gr w1 (w1.alloc (.cells xl.toArray 146)).drew:=((Gr.refl w1).alloc _).drew;have hr9:=hrg.out w9 ((hB.out.gr g9).grown hgr9 (fun x hx _ e => by cases hx;exact hcs.out e));have hBd9:=(hBd.out.gr g9).grown hgr9 (fun e => hcd.out.1 e.symm);have c29:=hBd9.cell (i:=2) (v:=.slice ca d.C.length cc) rfl;have f29:=hBd9.free 2;have z9:=hBd9.lt;replace hown9:=Lib.hid hown9;replace hBd9:=Lib.hid hBd9;replace hgr9:=Lib.hid hgr9;replace hat9:=Lib.hid hat9;refine hK.out _ _ (fun _ => ⟨hr9,c29⟩) ?_;clear hK K;try simp only [Act.put,List.setIfInBounds_toArray]
 refine wpAnyZ_one (i:=12) (by kernel_rfl) rfl (fun K hK => ?_);go_simp;refine hK.out _ _ (fun _ => ⟨hr9,c29⟩) ?_;clear hK K;try simp only [Act.put,List.setIfInBounds_toArray,List.set_cons_zero,List.set_cons_succ]
 refine wpAnyZ_one (i:=13) (by kernel_rfl) rfl (fun K hK => ?_);go_simp;refine hK.out _ _ (fun _ => ⟨hr9,c29⟩) ?_;clear hK K;try simp only [Act.put,List.setIfInBounds_toArray,List.set_cons_zero,List.set_cons_succ]
 refine wpAnyZ_one (i:=14) (by kernel_rfl) rfl (fun K hK => ?_);go_simp;refine hK.out _ _ (fun h => absurd rfl h) ?_;clear hK K;try simp only [Act.put,List.setIfInBounds_toArray,List.set_cons_zero,List.set_cons_succ]
 refine wpAnyZ_done (by kernel_rfl) ?_ _;refine NoPanic.normal ?_;obtain ⟨wz,hwz⟩:∃ wz,wz = w9.setCell ⟨db,2,none⟩ (.slice a9 (d.C.length + 1) c9):=⟨_,rfl⟩
 rw [← hwz];have hBz:=hBd9.out.set 2 (.slice a9 (d.C.length + 1) c9);rw [← hwz] at hBz;have c33:=hBz.cell (i:=3) (v:=.int .i64 wr) rfl;have f33:=hBz.free 3;have zz:=hBz.lt;clear c2 c3 f2 f3 z c29 f29 z9 hr9 c22 hr1 hr2;replace hwz:=Lib.hid hwz;replace hBz:=Lib.hid hBz;go_wp2_with fail;go_ret;have hlen:(d.C ++ [(i,l)]).length = d.C.length + 1:=by simp
 have h9:=hown9.out;have hob:∀ g,(Value.slice a9 (d.C ++ [(i,l)]).length c9).ownBlock = some g→g ≠ db:=fun g hg e => owns_blk h9 hBd9.out (by decide) (by rw [hg,e])
 have hcd:=hcd.out;have hBf:Blk (wz.setCell ⟨db,3,none⟩ (.int .i64 (wrap64 (wr + 1)))) db #[.int .i64 d.n,.map (some mb),.slice a9 (d.C ++ [(i,l)]).length c9,.int .i64 (wrap64 (wr + 1)),.bool d.lost] 89:=by
  have h3:=hBz.out.set 3 (.int .i64 (wrap64 (wr + 1)));rw [hlen];exact h3
 refine ⟨⟨d.write i l,mb,m,D,a9,c9,wrap64 (wr + 1)⟩,rfl,⟨rfl,⟨hBf,?_,fun _ => ?_,?_,h.out.ok.write hi hbl.out⟩,?_,?_⟩,rfl⟩
 ·have hm9:SafeW w9 mb m D:=(owns_mgrx h.out.s (((Gr.refl w1).alloc (.cells xl.toArray 146)).drew.x []) (by simp)).kept hgr9.out (fun e => hcd.2 e.symm);rw [hwz.out];have hdm:mb ≠ db:=fun e => by
   obtain ⟨es,clock,hb,_⟩:=h.out.s;have hb2:=h.out.b;unfold Blk at hb2;dsimp only at hb;rw [e] at hb;rw [hb] at hb2;cases hb2
  exact (hm9.setCell (a:=⟨db,2,none⟩) hdm _).setCell (a:=⟨db,3,none⟩) hdm _
 ·exact h.out.f hl
 ·rw [hwz.out];exact owns_set (owns_set h9 (p:=⟨db,2,none⟩) hob _) (p:=⟨db,3,none⟩) hob _
 ·have g1:GrX (DskM.own ⟨d,mb,m,D,ca,cc,wr⟩ db) w1 (w1.alloc (.cells xl.toArray 146)).drew:=((Gr.refl w1).alloc _).drew.x _;have g2:=GrX.grown g1 hgr9.out (fun k hk => .inl (by cases ca with | none => cases hk | some a => cases hk;simp [DskM.own]));rw [hwz.out];exact (g2.set (p:=⟨db,2,none⟩) (.inl (by simp [DskM.own])) _).set (p:=⟨db,3,none⟩) (.inl (by simp [DskM.own])) _
 ·intro b hb;rcases List.mem_cons.1 hb with rfl | hb
  ·exact .inl (by simp [DskM.own])
  rcases List.mem_cons.1 hb with rfl | hb
  ·exact .inl (by simp [DskM.own])
  cases ha:a9 with
  | none => subst ha;cases hb
  | some x =>
   subst ha;rw [List.mem_singleton.1 (show b ∈ [x.block] from hb)];rcases hat9.out with h1 | h1
   ·refine .inl ?_;cases ca with
    | none => cases h1
    | some y =>
     have h2:x.block = y.block:=by injection h1
     rw [h2];simp [DskM.own]
   ·refine .inr ?_;have h2:x.block = (w1.alloc (.cells xl.toArray 146)).drew.heap.size:=by injection h1
    rw [h2];simp
theorem step_copy_row {P:Program} {w:World} {ops:Array Oper} {o:Oper} {a:Act} {K:Act→World→Prop} {Q:Exit→Act→World→Prop} {E:Prop} (hgd:o.guard = none) (d s:Operand) (dT sT:TypeId)
 (ho:o.op = .call { callee:=.builtin .copy,args:=#[d,s],argTypes:=#[dT,sT] }) (elem:TypeId) (hu:P.underlying dT = some (.slice elem)) (hsz:(P.info? elem).map (·.size) = some 1)
 (g off dLen dCap:Nat) (ad:Addr) (sLen sCap:Nat) (hd:a.eval d = .slice (some ⟨g,off,none⟩) dLen dCap) (hs:a.eval s = .slice (some ad) sLen sCap)
 (cur:Array Value) (t:TypeId) (hg:w.heap[g]? = some (.cells cur t (0,0))) (cs:List Value) (hn:cs.length = Nat.min sLen dLen)
 (hsrc:∀ j v,cs[j]? = some v→w.cell? (ad.add j) = some v) (hfit:off + cs.length≤cur.size) (h1:∀ v ∈ cs,v.oneCell' = true)
 (h:K (a.put o.dst (goInt cs.length)) (w.setRow g (cur.toList.take off ++ (cs ++ cur.toList.drop (off + cs.length))).toArray)):if Region.wanted o (yielded ops a.tmps) = true then Oper.wp P o a w K Q else E:=by
 have hw:Region.wanted o (yielded ops a.tmps) = true:=by simp [Region.wanted,hgd]
 rw [if_pos hw];have hrun:=run_copy_row (P:=P) w dT sT o.type elem g off dLen dCap ad sLen sCap cur t cs hu hsz hg hn hsrc hfit h1;unfold Oper.wp;simp [execOp,ho,resolve,invoke,builtin,hd,hs,hrun,Result.andThen];exact h
theorem drop_flat:∀ (k:Nat) (l:List UInt8),(l.flatMap byteC).drop k = (l.drop k).flatMap byteC
 | 0,_ => rfl
 | _ + 1,[] => rfl
 | k + 1,b :: l => by
  show (l.flatMap byteC).drop k = (l.drop k).flatMap byteC;exact drop_flat k l
set_option maxRecDepth 100000 in
set_option maxHeartbeats 3200000 in
theorem dkeep_any (w:World) {db:Nat} {M:DskM} (h:DskAt w db M) (hl:M.d.lost = false) (x:Nat × List UInt8) (hx:x.1 < M.d.n) (hx2:x.2.length = 64) (hm:M.m≤1000000000) (k:Nat) (hk:k≤64) :
 Calls Tryz.prog 65 #[.pointer (some ⟨db,0,none⟩),.agg (wrC x).toArray,.int .i64 k] w fun e w' => ∃ M',e = .returned (.tuple #[])∧DskP db {M.d with F:=keepF M.d.F x k} M M' w w'∧M'.m = M.m + 1∧M'.mb = M.mb∧M'.ca = M.ca∧M'.cc = M.cc:=by
 obtain ⟨d,mb,m,D,ca,cc,wr⟩:=M;dsimp only at hl hx hm ⊢;have h1024:d.n≤1024:=h.ok.n1;obtain ⟨xs,hxs⟩:∃ xs,xs = (wrC x).toArray:=⟨_,rfl⟩
 have hxz:xs.size = 65:=by rw [hxs,List.size_toArray,wrC_len]
 obtain ⟨W,hW⟩:∃ W,W = w.alloc (.cells xs 146):=⟨_,rfl⟩
 have gW:Gr w W:=by rw [hW];exact (Gr.refl _).alloc _
 have hX:Blk W w.heap.size xs 146:=by rw [hW];exact Blk.new _ _ _
 have hD:=h.gr gW;obtain ⟨ys,hys⟩:∃ ys,ys = secC (d.F x.1):=⟨_,rfl⟩
 have hlk:∀ w':World,Gr w w'→(Instr.lookup 86 (.map (some mb)) (.int .i64 x.1) false).run Tryz.prog w' = .ok (.agg ys) w':=fun w' g => by
  rw [hys];exact (look_sec (owns_mgrx h.s (g.x []) (by simp)) (h.f hl) (i:=x.1) (by omega)).1
 have hFl:=h.ok.f x.1;have hyz:ys.size = 64:=by rw [hys,secC_size];exact hFl
 rw [← hxs];have c1:=hD.b.cell (i:=1) (v:=.map (some mb)) rfl;have x0:=hX.cell (i:=0) (v:=.int .i64 x.1) (by rw [hxs];rfl);have zD:=hD.b.lt;have zX:=hX.lt;have hst:∀ c:Array Value,c.size = 64→(storeCells ⟨W.heap.size,0,none⟩ ys.toList).run Tryz.prog (W.alloc (.cells c 144)).drew = .ok () (W.alloc (.cells ys 144)).drew:=fun c hc => store_new 144 64 ys hyz (by kernel_rfl) (by rw [hys];exact sec_one _) W.drew c hc
 replace h:=Lib.hid h;replace hD:=Lib.hid hD;replace hX:=Lib.hid hX;replace hW:=Lib.hid hW;replace hlk:=Lib.hid hlk;replace hxs:=Lib.hid hxs;replace hys:=Lib.hid hys;go_enter Tryz.func65,Tryz.ntmps65;go_upto_region 1 with fail
 rw [← hW.out];refine wp_region_Z 8 (fun w' => w'.cell? ⟨db,1,none⟩ = some (.map (some mb))∧w'.cell? ⟨w.heap.size,0,none⟩ = some (.int .i64 x.1)∧(Instr.lookup 86 (.map (some mb)) (.int .i64 x.1) false).run Tryz.prog w' = .ok (.agg ys) w') (by kernel_rfl) ?_;have hS0:(fun w' => w'.cell? ⟨db,1,none⟩ = some (.map (some mb))∧w'.cell? ⟨w.heap.size,0,none⟩ = some (.int .i64 x.1)∧(Instr.lookup 86 (.map (some mb)) (.int .i64 x.1) false).run Tryz.prog w' = .ok (.agg ys) w') W.drew:=⟨c1,x0,hlk.out _ gW.drew⟩
 refine wpAnyZ_take (i:=0) (v:=?v0) rfl (by kernel_rfl) (by kernel_rfl) (by kernel_rfl) (by kernel_rfl) (fun _ _ _ h => h) (by rfl) ?y0 hS0 ?r0;case y0 => (intro w hSw;(try dsimp only at hSw);go_simp;try with_reducible rfl)
 try simp only [Act.put,List.setIfInBounds_toArray]
 refine wpAnyZ_take (i:=1) (v:=?v1) rfl (by kernel_rfl) (by kernel_rfl) (by kernel_rfl) (by kernel_rfl) (fun _ _ _ h => h) (by rfl) ?y1 hS0 ?r1;case y1 => (intro w hSw;(try dsimp only at hSw);go_simp;try with_reducible rfl)
 try simp only [Act.put]
 refine wpAnyZ_take (i:=2) (v:=?v2) rfl (by kernel_rfl) (by kernel_rfl) (by kernel_rfl) (by kernel_rfl) (fun _ _ _ h => h) (by rfl) ?y2 hS0 ?r2;case y2 => (intro w hSw;(try dsimp only at hSw);go_simp;try with_reducible rfl)
 try simp only [Act.put]
 refine wpAnyZ_take (i:=3) (v:=?v3) rfl (by kernel_rfl) (by kernel_rfl) (by kernel_rfl) (by kernel_rfl) (fun _ _ _ h => h) (by rfl) ?y3 hS0 ?r3;case y3 => (intro w hSw;(try dsimp only at hSw);go_simp;try with_reducible rfl)
 try simp only [Act.put]
 refine wpAnyZ_take (i:=4) (v:=?v4) rfl (by kernel_rfl) (by kernel_rfl) (by kernel_rfl) (by kernel_rfl) (fun _ _ _ h => h) (by rfl) ?y4 hS0 ?r4;case y4 => (intro w hSw;(try dsimp only at hSw);go_simp;try with_reducible rfl)
 try simp only [Act.put]
 refine wpAnyZ_take (i:=5) (v:=?v5) rfl (by kernel_rfl) (by kernel_rfl) (by kernel_rfl) (by kernel_rfl) (fun _ _ _ h => h) (by rfl) ?y5 hS0 ?r5;case y5 => (intro w hSw;(try dsimp only at hSw);go_simp;try with_reducible rfl)
 try simp only [Act.put]
 refine wpAnyZ_take (i:=6) (v:=?v6) rfl (by kernel_rfl) (by kernel_rfl) (by kernel_rfl) (by kernel_rfl) (fun _ _ _ h => h) (by rfl) ?y6 hS0 ?r6;case y6 => (intro w hSw;obtain ⟨_,_,hq⟩:=hSw;unfold execOp;(try dsimp only at hq);go_simp;try with_reducible rfl)
 try simp only [Act.put]
 clear hS0;refine wpAnyZ_one (i:=7) (by kernel_rfl) rfl (fun K hK => ?_);go_simp;refine hK.out _ _ (fun _ => ⟨by simp (maxDischargeDepth:=8) [go_sem, *],by simp (maxDischargeDepth:=8) [go_sem, *],hlk.out _ (by first | exact gW.drew | exact (gW.alloc _).drew)⟩) ?_;clear hK K;try simp only [Act.put,List.setIfInBounds_toArray,List.set_cons_zero,List.set_cons_succ]
 refine wpAnyZ_one (i:=8) (by kernel_rfl) rfl (fun K hK => ?_);go_simp;refine hK.out _ _ (fun h => absurd rfl h) ?_;clear hK K;try simp only [Act.put,List.setIfInBounds_toArray,List.set_cons_zero,List.set_cons_succ]
 refine wpAnyZ_done (by kernel_rfl) ?_ _;refine NoPanic.normal ?_;obtain ⟨V,hV⟩:∃ V,V = (W.alloc (.cells ys 144)).drew:=⟨_,rfl⟩
 rw [← hV];have gV:Gr W V:=by rw [hV];exact ((Gr.refl _).alloc _).drew
 have hSV:Blk V W.heap.size ys 144:=by rw [hV];exact (Blk.new _ _ _).drew
 have hXV:=hX.out.gr gV;have hDV:=hD.out.gr gV;obtain ⟨cl,hcl⟩:∃ cl,cl = (x.2.take k).flatMap byteC:=⟨_,rfl⟩
 have hcz:cl.length = k:=by rw [hcl,flat_len byteC_len,List.length_take];omega
 have hsrc:∀ j v,cl[j]? = some v→V.drew.cell? ((⟨w.heap.size,1,none⟩:Addr).add j) = some v:=fun j v hv => by
  rw [Addr.add_mid];have hj:j < k:=by have:=get_lt hv;omega
  refine (hXV.drew).cell (i:=1 + j) ?_;rw [hxs.out,List.getElem?_toArray,Nat.add_comm,List.getElem?_cons_succ,pad_of hx2];obtain ⟨b,hb⟩:=get_some x.2 j (by omega);have h1:=flat_get byteC_len x.2 j b 0 _ hb rfl;have h2:=flat_get byteC_len (x.2.take k) j b 0 _ (by rw [List.getElem?_take_of_lt hj];exact hb) rfl;rw [Nat.mul_one,Nat.add_zero] at h1 h2;rw [← hcl,hv] at h2;rw [h1,h2]
 have h1c:∀ v ∈ cl,v.oneCell' = true:=fun v hv => by
  rw [hcl] at hv;obtain ⟨b,_,hb⟩:=List.mem_flatMap.1 hv;exact byteC_one b v hb
 have hn:cl.length = Nat.min k k:=by rw [hcz];exact (Nat.min_self k).symm
 have hfit:0 + cl.length≤ys.size:=by omega
 have k0:(0:Int)≤(k:Int):=Int.natCast_nonneg k;have k1:(k:Int)≤64:=by omega
 obtain ⟨zl,hzl⟩:∃ zl,zl = (x.2.take k ++ (d.F x.1).drop k).flatMap byteC:=⟨_,rfl⟩
 have hcat:(ys.toList.take 0 ++ (cl ++ ys.toList.drop (0 + cl.length))).toArray = zl.toArray:=by
  rw [hzl,hcz,hys.out,hcl,List.take_zero,List.nil_append,Nat.zero_add,List.flatMap_append];congr 2;exact drop_flat _ _
 have hzz:zl.length = 64:=by rw [hzl,flat_len byteC_len,List.length_append,List.length_take,List.length_drop,hFl,hx2];omega
 replace hV:=Lib.hid hV;replace hSV:=Lib.hid hSV;replace hXV:=Lib.hid hXV;replace hDV:=Lib.hid hDV;replace hcl:=Lib.hid hcl;replace hsrc:=Lib.hid hsrc;replace hzl:=Lib.hid hzl;replace hcat:=Lib.hid hcat;clear c1 x0 zD zX hst;go_upto_region 2 with fail
 go_region_held3 (fun _ => True) (trivial)
  (first
   | (refine step_copy_row (by rfl) _ _ 91 91 (by rfl) 5 Tryz.underlying91 (by kernel_rfl) W.heap.size 0 k 64 ⟨w.heap.size,1,none⟩ k 64 (by rfl) (by rfl) ys 144 hSV.out.drew cl hn hsrc.out hfit h1c ?_;rw [hcat.out])
   | fail)
 obtain ⟨V2,hV2⟩:∃ V2,V2 = V.drew.setRow W.heap.size zl.toArray:=⟨_,rfl⟩
 rw [← hV2];have gx2:GrX [W.heap.size] V V2:=by rw [hV2];exact ((GrX.refl _ _).drew).row (.inl (by simp)) _
 have hS2:Blk V2 W.heap.size zl.toArray 144:=by rw [hV2];exact hSV.out.drew.row _
 have hWz:w.heap.size < W.heap.size:=by rw [hW.out];simp
 have hX2:=hXV.out.grx gx2 (by simp;omega);have hlt:=hDV.out.lt;have hltW:=hD.out.lt;have hD2:=hDV.out.grx gx2 (fun b hb hm => by have:=hltW b hb;simp at hm;omega);have hrg2:V2.drew.rangeAt W.heap.size 0 zl:=fun j v hv => hS2.drew.cell (by rw [List.getElem?_toArray,Nat.zero_add,hv])
 have hi72:(Tryz.prog.info? 144).map (·.size) = some zl.length:=by rw [hzz];kernel_rfl
 have hu72:Tryz.prog.underlying 144 = some (.array 64 5):=Tryz.underlying144;have hrun0:=store_sec (w:=V2.drew) (hD2.gr ((Gr.refl V2).drew)).s (h.out.f hl) (n:=m) (by unfold maxLen;omega) (i:=x.1) (by omega) (b:=x.2.take k ++ (d.F x.1).drop k) (by rw [List.length_append,List.length_take,List.length_drop,hFl,hx2];omega);obtain ⟨w5,hrun,hM5,hF5,gx5⟩:=hrun0;rw [show secV (x.2.take k ++ (d.F x.1).drop k) = .agg zl.toArray by rw [hzl.out]] at hrun;have c1:=hD2.b.cell (i:=1) (v:=.map (some mb)) rfl;have x0:=hX2.cell (i:=0) (v:=.int .i64 x.1) (by rw [hxs.out];rfl);have zD:=hD2.b.lt;have zX:=hX2.lt;have hD2d:=hD2.gr ((Gr.refl V2).drew);dsimp only at gx5 hM5;replace hD2d:=Lib.hid hD2d;replace hV2:=Lib.hid hV2;replace gx2:=Lib.hid gx2;replace hS2:=Lib.hid hS2;replace hX2:=Lib.hid hX2;replace hlt:=Lib.hid hlt;replace hltW:=Lib.hid hltW;replace hD2:=Lib.hid hD2;replace hM5:=Lib.hid hM5;replace hF5:=Lib.hid hF5;replace gx5:=Lib.hid gx5;clear hsrc h1c hn hfit k0 k1;go_upto_region 3 with fail
 refine wp_region_Z 7 (fun w' => w'.cell? ⟨db,1,none⟩ = some (.map (some mb))∧w'.cell? ⟨w.heap.size,0,none⟩ = some (.int .i64 x.1)∧w'.rangeAt W.heap.size 0 zl) (by kernel_rfl) ?_;have hS0:(fun w' => w'.cell? ⟨db,1,none⟩ = some (.map (some mb))∧w'.cell? ⟨w.heap.size,0,none⟩ = some (.int .i64 x.1)∧w'.rangeAt W.heap.size 0 zl) V2.drew:=⟨c1,x0,hrg2⟩
 refine wpAnyZ_take (i:=0) (v:=?v0c) rfl (by kernel_rfl) (by kernel_rfl) (by kernel_rfl) (by kernel_rfl) (fun _ _ _ h => h) (by rfl) ?y0c hS0 ?r0c;case y0c => (intro w hSw;(try dsimp only at hSw);go_simp;try with_reducible rfl)
 try simp only [Act.put,List.setIfInBounds_toArray]
 refine wpAnyZ_take (i:=1) (v:=?v1c) rfl (by kernel_rfl) (by kernel_rfl) (by kernel_rfl) (by kernel_rfl) (fun _ _ _ h => h) (by rfl) ?y1c hS0 ?r1c;case y1c => (intro w hSw;(try dsimp only at hSw);go_simp;try with_reducible rfl)
 try simp only [Act.put]
 refine wpAnyZ_take (i:=2) (v:=?v2c) rfl (by kernel_rfl) (by kernel_rfl) (by kernel_rfl) (by kernel_rfl) (fun _ _ _ h => h) (by rfl) ?y2c hS0 ?r2c;case y2c => (intro w hSw;(try dsimp only at hSw);go_simp;try with_reducible rfl)
 try simp only [Act.put]
 refine wpAnyZ_take (i:=3) (v:=?v3c) rfl (by kernel_rfl) (by kernel_rfl) (by kernel_rfl) (by kernel_rfl) (fun _ _ _ h => h) (by rfl) ?y3c hS0 ?r3c;case y3c => (intro w hSw;(try dsimp only at hSw);go_simp;try with_reducible rfl)
 try simp only [Act.put]
 refine wpAnyZ_take (i:=4) (v:=?v4c) rfl (by kernel_rfl) (by kernel_rfl) (by kernel_rfl) (by kernel_rfl) (fun _ _ _ h => h) (by rfl) ?y4c hS0 ?r4c;case y4c => (intro w hSw;(try dsimp only at hSw);go_simp;try with_reducible rfl)
 try simp only [Act.put]
 refine wpAnyZ_take (i:=5) (v:=?v5c) rfl (by kernel_rfl) (by kernel_rfl) (by kernel_rfl) (by kernel_rfl) (fun _ _ _ h => h) (by rfl) ?y5c hS0 ?r5c;case y5c => (intro w hSw;(try dsimp only at hSw);go_simp;try with_reducible rfl)
 try simp only [Act.put]
 refine wpAnyZ_take (i:=6) (v:=?v6c) rfl (by kernel_rfl) (by kernel_rfl) (by kernel_rfl) (by kernel_rfl) (fun _ _ _ h => h) (by rfl) ?y6c hS0 ?r6c;case y6c => (intro w hSw;refine load_op (x:=.tmp 6) ?_ ?_ hSw.2.2 hu72 rfl hi72 <;> rfl)
 try simp only [Act.put]
 clear hS0;refine wpAnyZ_one (i:=7) (by kernel_rfl) rfl (fun K hK => ?_);go_simp;refine hK.out _ _ (fun h => absurd rfl h) ?_;clear hK K;try simp only [Act.put,List.setIfInBounds_toArray,List.set_cons_zero,List.set_cons_succ]
 refine wpAnyZ_done (by kernel_rfl) ?_ _;refine NoPanic.normal ?_;go_end0;refine ⟨⟨{d with F:=keepF d.F x k},mb,m + 1,_,ca,cc,wr⟩,rfl,⟨rfl,⟨?_,hM5.out,fun _ => hF5.out,?_,?_⟩,?_,fun b hb => .inl hb⟩,rfl,rfl,rfl,rfl⟩
 ·exact hD2d.out.b.grx gx5.out (by have:=h.out.dm;simpa using this)
 ·exact owns_grx hD2d.out.c gx5.out (fun g hg hm => h.out.cb.2 (by rw [hg,List.mem_singleton.1 hm]))
 ·exact ⟨h.out.ok.n0,h.out.ok.n1,keep_len h.out.ok.f hx2 k hk,h.out.ok.c⟩
 ·have g1:GrX (DskM.own ⟨d,mb,m,D,ca,cc,wr⟩ db) w V:=(gW.trans gV).x _;have g2:GrX (DskM.own ⟨d,mb,m,D,ca,cc,wr⟩ db) w V2:=by rw [hV2.out];exact g1.drew.row (.inr (by omega)) _
  exact g2.drew.trans (gx5.out.mono (fun y hy => by rw [List.mem_singleton.1 hy];simp [DskM.own]))
theorem flushF_snoc (F:Nat→List UInt8) (C:List (Nat × List UInt8)) (x:Nat × List UInt8):flushF F (C ++ [x]) = keepF (flushF F C) x 64:=by unfold flushF;rw [List.foldl_append];rfl
theorem wr_cells {w:World} {ca:Option Addr} {cc:Nat} {C:List (Nat × List UInt8)} (h:w.ownsRow 0 146 65 (.slice ca C.length cc) C.length (C.flatMap wrC)) {k:Nat} {x:Nat × List UInt8} (hx:C[k]? = some x):∃ b off,ca = some ⟨b,off,none⟩∧b < w.heap.size∧w.rangeAt b (off + k * 65) (wrC x):=by
 obtain ⟨a0,c0,e0,hrec,-,-⟩:=recs_of_owns wrC_len h;obtain ⟨b,off,hag,hb,hcl⟩:=hrec k x hx;injection e0 with p q r
 exact ⟨b,off,p.trans hag,hb,hcl⟩
set_option maxRecDepth 100000 in
set_option maxHeartbeats 3200000 in
theorem dflush_any (w:World) {db:Nat} {M:DskM} (h:DskAt w db M) (hl:M.d.lost = false) (hC:M.d.C.length≤1000000) (hm:M.m + M.d.C.length≤1000000000) :
 Calls Tryz.prog 80 #[.pointer (some ⟨db,0,none⟩)] w fun e w' => ∃ M',e = .returned .nilIface∧DskP db M.d.flush M M' w w'∧M'.m≤M.m + M.d.C.length:=by
 obtain ⟨d,mb,m,D,ca,cc,wn⟩:=M;dsimp only at hl hC hm ⊢;have c2:=h.b.cell (i:=2) (v:=.slice ca d.C.length cc) rfl;have c4:=h.b.cell (i:=4) (v:=.bool d.lost) rfl;rw [hl] at c4;have z:=h.b.lt;obtain ⟨zc,hzz,hzc⟩:∃ zc:Array Value,zc.size = 65∧∀ w,(zeroValue 146).run Tryz.prog w = .ok (.agg zc) w:=by
  obtain ⟨i5,hi5,hz0,hz1,hz2⟩:=info_parts Tryz.infoWr;refine ⟨(wrC (0,zeroS)).toArray,by rw [List.size_toArray,wrC_len],fun w => ?_⟩;simp [zeroValue,typeInfo,hi5,hz0]
 replace h:=Lib.hid h;go_enter Tryz.func80,Tryz.ntmps80;go_wp2_with fail;go_loopw [15] (fun iv wr => ∃ (k:Nat) (N:DskM),k≤d.C.length∧iv = .int .i64 k∧Hid (N.d = {d with F:=flushF d.F (d.C.take k)}∧N.mb = mb∧N.ca = ca∧N.cc = cc∧N.m = m + k∧DskAt wr db N∧GrX (DskM.own ⟨d,mb,m,D,ca,cc,wn⟩ db) w wr)) (fun iv _ => d.C.length - (intOf iv).toNat);case atStart => exact ⟨0,⟨d,mb,m,D,ca,cc,wn⟩,Nat.zero_le _,rfl,Lib.hid ⟨rfl,rfl,rfl,rfl,rfl,h.out,GrX.refl _ _⟩⟩
 case round =>
  obtain ⟨k,⟨d1,mb1,m1,D1,ca1,cc1,wr1⟩,hk,rfl,hI⟩:=hrel;obtain ⟨e1,e2,e3,e4,e5,hN,hg⟩:=hI.out;dsimp only at e1 e2 e3 e4 e5;subst e1 e2 e3 e4 e5;clear hI;obtain ⟨wo,rfl⟩:∃ wo:World,wo = wr:=⟨wr,rfl⟩
  by_cases hlt:k < d.C.length
  ·obtain ⟨x,hx⟩:=get_some d.C k hlt;have hxm:=h.out.ok.c x (get_mem hx);obtain ⟨b,off,hag,hb,hrg⟩:=wr_cells hN.c hx;subst hag;obtain ⟨xs,hxs⟩:∃ xs,xs = (wrC x).toArray:=⟨_,rfl⟩
   have hxz:xs.size = 65:=by rw [hxs,List.size_toArray,wrC_len]
   have hsx:=store_new 146 65 xs hxz (by kernel_rfl) (by rw [hxs];exact wr_one x);have hwl:(Tryz.prog.info? 146).map (·.size) = some (wrC x).length:=by rw [wrC_len];kernel_rfl
   obtain ⟨wb,hwb⟩:∃ wb,wb = wo.alloc (.cells xs 146):=⟨_,rfl⟩
   have gb:Gr wo wb:=by rw [hwb];exact (Gr.refl _).alloc _
   have hX:Blk wb wo.heap.size xs 146:=by rw [hwb];exact Blk.new _ _ _
   have hXr:wb.rangeAt wo.heap.size 0 (wrC x):=fun j v hv => hX.cell (by rw [hxs,List.getElem?_toArray,Nat.zero_add,hv])
   have hkp:=dkeep_any wb (hN.gr gb) hl x hxm.1 hxm.2 (by dsimp only;omega) 64 (Nat.le_refl _);dsimp only at hkp;have hfs:flushF d.F (d.C.take (k + 1)) = keepF (flushF d.F (d.C.take k)) x 64:=by rw [take_snoc hx,flushF_snoc]
   replace hxs:=Lib.hid hxs;replace hwb:=Lib.hid hwb;replace hX:=Lib.hid hX;replace hXr:=Lib.hid hXr;replace hkp:=Lib.hid hkp;replace hfs:=Lib.hid hfs;replace hx:=Lib.hid hx;replace hrg:=Lib.hid hrg;replace hN:=Lib.hid hN;go_upto_region 6 with (refine wpList_load_mid rfl 146 _ rfl b (off + k * 65) rfl (wrC x) _ hrg.out Tryz.underlying146 rfl hwl ?_;rw [← hxs.out])
   rw [← hwb.out];clear hsx;go_wp2_with (refine wpList_load_mid rfl 146 _ rfl wo.heap.size 0 rfl (wrC x) _ hXr.out Tryz.underlying146 rfl hwl ?_);refine hkp.out.mono ?_;rintro e w2 ⟨⟨d2,mb2,m2,D2,ca2,cc2,wr2⟩,rfl,⟨q1,hD2,hg2,-⟩,q2,q3,q4,q5⟩;dsimp only at q1 q2 q3 q4 q5;subst q1 q2 q3 q4 q5;have hgw:=(hg.gr gb).trans (hg2.mono (fun y hy => by simpa [DskM.own] using hy));replace hD2:=Lib.hid hD2;replace hg2:=Lib.hid hg2;replace hgw:=Lib.hid hgw;go_wp2_with fail;go_roundw;case rel => exact ⟨k + 1,⟨_,_,_,D2,_,_,wr2⟩,by omega,by go_num,Lib.hid ⟨by dsimp only;rw [hfs.out],rfl,rfl,rfl,by dsimp only;omega,hD2.out,hgw.out⟩⟩
   case measure => simp [intOf];omega
  ·have hke:k = d.C.length:=by omega
   have hkb:decide ((k:Int) < d.C.length) = false:=decide_eq_false (by omega);have hfl:flushF d.F (d.C.take k) = flushF d.F d.C:=by rw [hke,List.take_length]
   have hBN:=hN.b;have f2:=hBN.free 2;have zN:=hBN.lt;have c22:=hBN.cell (i:=2) (v:=.slice ca1 d.C.length cc1) rfl;obtain ⟨wz,hwz⟩:∃ wz,wz = wo.setCell ⟨db,2,none⟩ (.slice none 0 0):=⟨_,rfl⟩
   replace hke:=Lib.hid hke;replace hfl:=Lib.hid hfl;replace hBN:=Lib.hid hBN;replace hN:=Lib.hid hN;replace hwz:=Lib.hid hwz;go_wp2_with fail;rw [← hwz.out];go_ret;have hdm:mb1 ≠ db:=hN.out.dm.symm;refine ⟨⟨d.flush,mb1,m + k,D1,none,0,wr1⟩,rfl,⟨rfl,⟨?_,?_,fun _ => ?_,World.ownsRow_nil _ _ _ _,h.out.ok.flush⟩,?_,fun b hb => ?_⟩,by dsimp only;omega⟩
   ·rw [hwz.out];exact hBN.out.set 2 (.slice none 0 0)
   ·rw [hwz.out];exact hN.out.s.setCell (a:=⟨db,2,none⟩) hdm _
   ·show SafeD D1 (flushF d.F d.C);rw [← hfl.out];exact hN.out.f hl
   ·rw [hwz.out];exact hg.set (p:=⟨db,2,none⟩) (.inl (by simp [DskM.own])) _
   ·left;simp [DskM.own] at hb ⊢;rcases hb with rfl | rfl <;> simp
end Go.Proofs.YteigofaccjaobaaGreatDoor
