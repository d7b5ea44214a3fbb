/- slices.Collect of slices.Chunk of bytes. -/
import Derived.RangeFuncNested
import Derived.RangeFuncBound
import Derived.RangeFuncCalls
import Derived.RangeFuncLeaves
import Derived.RangeFuncBox
import Derived.Shelf.Abstract
import Derived.Shelf.RegionOpen
import Derived.OwnWalkIn
import Derived.TacticsInMore
import Derived.LoopNIn
import Derived.LoopIn
import Derived.Maps.OwnIn
import Derived.Test.YteigofaccjaobaaGreatDoorKL9
namespace Go.Proofs.YteigofaccjaobaaGreatDoor
open Go.RowKit Go.Shelf
attribute [local go_sem] Oper.semAt_some
abbrev chV (b off len k:Nat):Value:=.slice (some ⟨b,off + 63 * k,none⟩) (min 63 (len - 63 * k)) (min 63 (len - 63 * k))
abbrev chC (b off len k:Nat):List Value:=[chV b off len k]
theorem chC_len (b off len k:Nat):(chC b off len k).length = 1:=rfl
theorem costN_lt {len k:Nat}:k < costN len ↔ 63 * k < len:=by unfold costN;omega
set_option maxRecDepth 100000 in
set_option maxHeartbeats 3200000 in
theorem ck1_in (n:Nat) (hn:1≤n) (l B1 B2 n₀ b off len cap:Nat) (hlen:len≤40000) (hcap:len≤cap) (J Jx:List Nat→World→Prop) (B:Nat) (hJa:AbidesFrom B J)
 (hY:∀ pre x W,J pre W→pre.length < costN len→YieldAt Fence.wide (n - 1) Tryz.prog l #[chV b off len x] W fun e W' =>
  (e = .returned (.bool true)∧J (pre ++ [x]) W'∧Below n₀ W W') ∨ (e = .returned (.bool false)∧Jx (pre ++ [x]) W'))
 (W:World) (h1:B1 < n₀) (h2:B2 < n₀) (hB1:W.cell? ⟨B1,0,none⟩ = some (.slice (some ⟨b,off,none⟩) len cap)) (hB2:W.cell? ⟨B2,0,none⟩ = some (.int .i64 63)) (hW:n₀≤W.heap.size) (h0:J [] W) :
 CallsIn Fence.wide n Tryz.prog 160 #[.func (.yield l) #[] #[],.pointer (some ⟨B1,0,none⟩),.pointer (some ⟨B2,0,none⟩)] W fun e W' => (∃ v,e = .returned v) ∧
  ((∃ ys,ys = List.range (costN len)∧J ys W') ∨ (∃ pre,(∃ k,k≤costN len∧pre = List.range k)∧Jx pre W')):=by
 refine callsIn_of_wp Tryz.func160 rfl trivial ?_ rfl;simp only [Tryz.ntmps160,List.size_toArray,List.length_cons,List.length_nil,Nat.reduceAdd,Nat.reduceSub,Array.replicate_succ,Array.replicate_zero,List.push_toArray,List.append_toArray,List.nil_append,List.cons_append]
 gi_wp2
 gi_loopw [4] (fun i wr => ∃ k:Nat,k≤costN len∧i = .int .i64 ((63 * k:Nat):Int)∧J (List.range k) wr∧Below n₀ W wr)
  (fun i _ => (63 * costN len) - (intOf i).toNat)
 case atStart => exact ⟨0,Nat.zero_le _,rfl,h0,Below.refl _ _⟩
 case round =>
  obtain ⟨k,hk,rfl,hJs,hnx⟩:=hrel;obtain ⟨wo,rfl⟩:∃ wo:World,wo = wr:=⟨wr,rfl⟩
  have c1:wo.cell? ⟨B1,0,none⟩ = some (.slice (some ⟨b,off,none⟩) len cap):=(hnx.cell (p:=⟨B1,0,none⟩) h1).trans hB1;have c2:wo.cell? ⟨B2,0,none⟩ = some (.int .i64 63):=(hnx.cell (p:=⟨B2,0,none⟩) h2).trans hB2;by_cases hlt:k < costN len
  ·have hlt2:=costN_lt.1 hlt;obtain ⟨q,hq⟩:∃ q,q = 63 * k:=⟨_,rfl⟩
   have t1:decide ((q:Int) < len) = true:=decide_eq_true (by omega);have t2:(q:Int) < len:=by omega
   obtain ⟨m,hm⟩:∃ m,m = min 63 (len - q):=⟨_,rfl⟩
   have hm2:(if ((len - q:Nat):Int) < 63 then ((len - q:Nat):Int) else 63) = (m:Int):=by rw [hm];split <;> omega
   have hm3:m≤len - q:=by omega
   have hm4:m≤63:=by omega
   have hqs:63 * (k + 1) = q + 63:=by omega
   have hdn:((63 * costN len:Nat):Int) - q≤63 * costN len:=by omega
   have hyy:∀ W1,J (List.range k) W1→YieldAt Fence.wide (n - 1) Tryz.prog l #[.slice (some ⟨b,off + q,none⟩) m m] W1 fun e W' =>
   (e = .returned (.bool true)∧J (List.range k ++ [k]) W'∧Below n₀ W1 W') ∨ (e = .returned (.bool false)∧Jx (List.range k ++ [k]) W'):=fun W1 hj => by
    have:=hY _ k W1 hj (by rw [List.length_range];exact hlt);unfold chV at this;rw [← hq,← hm] at this;exact this
   replace hyy:=Lib.hid hyy;rw [← hq];replace hq:=Lib.hid hq;replace hm:=Lib.hid hm
   gi_wp2
   refine (wpIn_wide (n:=n)).2 ?_;have c1:=GrW.cell c1;have c2:=GrW.cell c2;refine wp_region_grows (by kernel_rfl) (by kernel_rfl) ?_;repeat (any_goals (first | go_big_quiet_step (first | fail) | quiet_step (first | fail)))
   refine wpQuiet_nil ?_;intro wz hwq;have gz:=GrW.of hwq;clear hwq;obtain ⟨cz,fz,sz⟩:=gz.cells;try simp only [size_drewN] at cz fz sz
   try simp only [World.size_alloc] at cz fz sz
   try simp only [World.size_drew] at cz fz sz
   try simp only [World.size_setCell] at cz fz sz
   have d1:wz.cell? ⟨B1,0,none⟩ = some (.slice (some ⟨b,off,none⟩) len cap):=c1 ⟨wz,gz⟩;have d2:wz.cell? ⟨B2,0,none⟩ = some (.int .i64 63):=c2 ⟨wz,gz⟩;have hJz:J (List.range k) wz:=hJa _ wo wz none hJs ⟨gz.os,gz.tape,gz.output,gz.size,fun k hk _ => gz.block k hk⟩ (fun r e => by cases e);obtain ⟨fn,tmps,assign,body,hy,hR⟩:=hyy.out wz hJz;have hnz:Below n₀ W wz:=hnx.trans (Below.mono gz (by have:=hnx.size;omega));clear c1 c2
   gi_wp2
   refine hR.mono ?_;rintro e W3 (⟨rfl,hJ3,hk3⟩ | ⟨rfl,hJx3⟩)
   ·have d3:W3.cell? ⟨B2,0,none⟩ = some (.int .i64 63):=(hk3.cell (p:=⟨B2,0,none⟩) h2).trans d2;clear hy hR
    gi_wp2
    go_roundw;case rel => exact ⟨k + 1,by omega,by rw [hqs];go_num,by rw [List.range_succ];exact hJ3,hnz.trans hk3⟩
    case measure => simp [intOf];omega
   ·clear hy hR
    gi_wp2
    refine bodyPost_ret (results_none rfl _ _ _) rfl ?_;exact ⟨⟨_,rfl⟩,.inr ⟨_,⟨k + 1,by omega,List.range_succ.symm⟩,hJx3⟩⟩
  ·obtain rfl:k = costN len:=by omega
   have hge:¬ (63 * costN len < len):=by have:=@costN_lt len (costN len);omega
   obtain ⟨q,hq⟩:∃ q,q = 63 * costN len:=⟨_,rfl⟩
   rw [← hq] at hge ⊢;have t1:decide ((q:Int) < len) = false:=decide_eq_false (by omega);replace hq:=Lib.hid hq
   gi_wp2
   go_end0;exact ⟨⟨_,rfl⟩,.inl ⟨_,rfl,hJs⟩⟩
theorem range_take (k n:Nat) (h:k≤n):List.range k = (List.range n).take k:=by
 rw [List.take_range,Nat.min_eq_left h]
theorem ck_stops (n:Nat) (hn:1≤n) (B1 B2 b off len cap:Nat) (hlen:len≤40000) (hcap:len≤cap) (w:World) (n₀:Nat) (hn0:n₀≤w.heap.size) (h1:B1 < n₀) (h2:B2 < n₀)
 (hB1:w.cell? ⟨B1,0,none⟩ = some (.slice (some ⟨b,off,none⟩) len cap)) (hB2:w.cell? ⟨B2,0,none⟩ = some (.int .i64 63)) :
 SeqStopsK Fence.wide n Tryz.prog 160 #[.pointer (some ⟨B1,0,none⟩),.pointer (some ⟨B2,0,none⟩)] (fun k:Nat => #[chV b off len k]) (Below n₀) (fun ys => ys = List.range (costN len)) (fun pre => pre <+: List.range (costN len)) (costN len) w:=fun l J Jx W hW hJ hJx hY h0 => by
 refine (ck1_in n hn l B1 B2 n₀ b off len cap hlen hcap J Jx W.heap.size hJ hY W h1 h2 ((hW.cell (p:=⟨B1,0,none⟩) (Nat.lt_of_lt_of_le h1 hn0)).trans hB1) ((hW.cell (p:=⟨B2,0,none⟩) (Nat.lt_of_lt_of_le h2 hn0)).trans hB2) (Nat.le_trans hn0 hW.size) h0).mono ?_;rintro e W' ⟨he,⟨ys,rfl,hj⟩ | ⟨pre,⟨k,hk,rfl⟩,hj⟩⟩
 ·exact ⟨he,.inl ⟨_,rfl,hj⟩⟩
 ·exact ⟨he,.inr ⟨_,by rw [range_take k _ hk];exact List.take_prefix _ _,hj⟩⟩
set_option maxRecDepth 100000 in
set_option maxHeartbeats 3200000 in
theorem appendSeq_any (w:World) (B1 B2 b off len cap:Nat) (hlen:len≤40000) (hcap:len≤cap) (h1:B1 < w.heap.size) (h2:B2 < w.heap.size)
 (hB1:w.cell? ⟨B1,0,none⟩ = some (.slice (some ⟨b,off,none⟩) len cap)) (hB2:w.cell? ⟨B2,0,none⟩ = some (.int .i64 63)) :
 Calls Tryz.prog 159 #[.slice none 0 0,.func (.func 160) #[] #[.pointer (some ⟨B1,0,none⟩),.pointer (some ⟨B2,0,none⟩)]] w fun e w' => ∃ a c,e = .returned (.slice a (costN len) c)∧RecsAt 1 (chC b off len) w' a (List.range (costN len))∧(∀ x,a = some x→w.heap.size≤x.block)∧Gr w w':=by
 have hNl:costN len≤40000:=by unfold costN;omega
 obtain ⟨N,hN⟩:∃ N,N = costN len:=⟨_,rfl⟩
 rw [← hN] at hNl ⊢;refine (callsIn_wide (n:=3)).1 ?_;refine callsIn_of_wp_marks Tryz.func159 rfl trivial ?_ rfl;simp only [Tryz.ntmps159,List.size_toArray,List.length_cons,List.length_nil,Nat.reduceAdd,Nat.reduceSub,Array.replicate_succ,Array.replicate_zero,List.push_toArray,List.append_toArray,List.nil_append,List.cons_append];refine (wpIn_wide (n:=3)).2 ?_;obtain ⟨w9,hw9⟩:∃ w9,w9 = w.alloc (.cells #[.slice none 0 0] 109):=⟨_,rfl⟩
 have gU:Gr w w9:=by rw [hw9];exact (Gr.refl w).alloc _
 have hbox0:Boxed w9 w.heap.size 109 (.slice none 0 0):=by rw [hw9];exact Blk.new _ _ _
 have hrow0:w9.ownsRow w.heap.size 91 1 (.slice none 0 0) ([]:List Nat).length (([]:List Nat).flatMap (chC b off len)):=World.ownsRow_nil _ _ _ _;have hle9:=gU.size;have hb9:w.heap.size < w9.heap.size:=hbox0.lt;have c19:w9.cell? ⟨B1,0,none⟩ = some (.slice (some ⟨b,off,none⟩) len cap):=(gU.cells.1 _ _ h1).trans hB1;have c29:w9.cell? ⟨B2,0,none⟩ = some (.int .i64 63):=(gU.cells.1 _ _ h2).trans hB2;replace hw9:=Lib.hid hw9;replace hbox0:=Lib.hid hbox0;replace hrow0:=Lib.hid hrow0;replace hN:=Lib.hid hN;go_upto_region 1 with fail
 rw [← hw9.out];go_wp2_with fail;obtain ⟨i0,hi,hz0,hz1,hz2⟩:=info_parts Tryz.infoBS;have hrl:(List.range (costN len)).length = N:=by rw [List.length_range];exact hN.out.symm
 replace hrl:=Lib.hid hrl;refine (wpIn_wide (n:=3)).1 ?_;refine wpIn_rangeFunc_ownG (n:=3) rfl (by decide) (gf:=160) (lb:=#[.pointer (some ⟨B1,0,none⟩),.pointer (some ⟨B2,0,none⟩)]) rfl trivial (enters_of Tryz.func160 (by kernel_rfl) rfl)
  (ck_stops 2 (by decide) B1 B2 b off len cap hlen hcap w9 w.heap.size hle9 h1 h2 c19 c29) belowK_t (belowK_b hle9) (Below.refl _ _) (fun _ => rfl)
  (fun (pre:List Nat) W => (∃ v,Boxed W w.heap.size 109 v∧W.ownsRow w.heap.size 91 1 v pre.length (pre.flatMap (chC b off len))∧True)∧Below w.heap.size w9 W)
  (fun _ _ _ => False)
  (OwnFrom.and (Own.from (holdsRow_own w.heap.size w.heap.size 109 91 1 (fun (pre:List Nat) => pre.length) (fun pre => pre.flatMap (chC b off len)) (fun pre v => True)) _) (ownFrom_below hle9 hle9))
  (fun _ _ _ _ _ hs _ _ => hs)
  ⟨⟨_,hbox0.out,hrow0.out,trivial⟩,Below.refl _ _⟩
  ?a1 ?assign ?body ?done ?stop
 case assign =>
  intro l x W K hK
  gi_wp2
  exact hK
 case body =>
  rintro l pre x W ⟨⟨v,hv,hrow,-⟩,hB⟩ hlt;have hc:=hv.cell;have hlt2:pre.length < N:=by rw [hN.out];exact hlt
  gi_wp2_with (gi_at_builtin;refine wpListIn_append_own_at _ rfl _ _ 109 rfl w.heap.size 91 i0 (.slice none 0 0) 1 24 Tryz.underlying109 hi hz0 hz1 hz2 rfl (by decide) _ _ _ rfl (hrow.alloc _) ⟨W.heap.size,0,none⟩ 1 1 [chV b off len x] rfl rfl (cell_one_new _ _ _) (by simp [Value.oneCell']) (by unfold maxLen;omega) (by omega) (by have:=hB.size;simp;omega) ?_;intro v' w1 hown' hgrow _ hat;obtain ⟨g',cap',rfl⟩:=ownsRow_succ hown';obtain ⟨hv1,hv2,hr2,hk2,hb2⟩:=hv.appended (by decide) hrow (Nat.le_trans hle9 hB.size) (by omega) hown' hgrow;have hc1:=hv1.cell;have hf1:=hv1.frozen)
  refine ⟨hk2.from _,hb2,⟨⟨_,hv2,?_,trivial⟩,hB.trans hb2⟩⟩;rw [List.length_append,List.flatMap_append];exact hr2
 case done =>
  rintro D ys W hD rfl ⟨⟨v,hv,hrow,-⟩,hB⟩ hK;obtain ⟨a8,c8,rfl,hr8,hn8,hb8⟩:=recs_of_owns (chC_len b off len) hrow;have gW:Gr w W:=Below.trans gU hB;have hc:=hv.cell;have hvl:=hv.lt;rw [hrl.out] at hc;replace hr8:=Lib.hid hr8;replace hb8:=Lib.hid hb8;clear hv hrow;go_wp2_with fail;refine ⟨by simp,.inl ⟨_,_,rfl,run_takeDeferred hK,?_⟩⟩;refine ⟨_,results_tmp rfl _ _ _,a8,c8,rfl,?_,hb8.out,Below.trans gW (belowK_b (w:=w) (Nat.le_refl _) W D _ _ (by omega) hK rfl rfl)⟩;intro i s hi;rw [hN.out] at hi;obtain ⟨b',off',ha,hb',hcl⟩:=hr8.out i s hi;have h0:=hcl 0 _ rfl;have hbD:b' ≠ D:=fun e => by
   subst e;unfold World.cell? at h0;rw [hK] at h0;cases h0
  refine ⟨b',off',ha,by simpa [World.putObj] using hb',fun j u hu => ?_⟩;have hhe:(W.putObj D (Obj.deferred none)).heap[b']? = W.heap[b']?:=by simp [World.putObj,Ne.symm hbD]
  rw [World.cell?_of_block hhe];exact hcl j u hu
 case stop =>
  rintro D c pre W _ _ h _;exact h.elim
set_option maxRecDepth 100000 in
theorem collect_any (w:World) (B1 B2 b off len cap:Nat) (hlen:len≤40000) (hcap:len≤cap) (h1:B1 < w.heap.size) (h2:B2 < w.heap.size)
 (hB1:w.cell? ⟨B1,0,none⟩ = some (.slice (some ⟨b,off,none⟩) len cap)) (hB2:w.cell? ⟨B2,0,none⟩ = some (.int .i64 63)) :
 Calls Tryz.prog 122 #[.func (.func 160) #[] #[.pointer (some ⟨B1,0,none⟩),.pointer (some ⟨B2,0,none⟩)]] w fun e w' => ∃ a c,e = .returned (.slice a (costN len) c)∧RecsAt 1 (chC b off len) w' a (List.range (costN len))∧(∀ x,a = some x→w.heap.size≤x.block)∧Gr w w':=by
 have hap:=appendSeq_any w B1 B2 b off len cap hlen hcap h1 h2 hB1 hB2;replace hap:=Lib.hid hap;go_enter Tryz.func122,Tryz.ntmps122;go_wp2_with fail;refine hap.out.mono ?_;rintro e w1 ⟨a,c,rfl,hr,hb,g⟩;replace hr:=Lib.hid hr;replace hb:=Lib.hid hb;go_wp2_with fail;go_ret;exact ⟨a,c,rfl,hr.out,hb.out,g⟩
theorem chunk_any (w:World) (b off len cap:Nat) :
 Calls Tryz.prog 123 #[.slice (some ⟨b,off,none⟩) len cap,.int .i64 63] w fun e w' => ∃ B1 B2,e = .returned (.func (.func 160) #[] #[.pointer (some ⟨B1,0,none⟩),.pointer (some ⟨B2,0,none⟩)])∧B1 < w'.heap.size∧B2 < w'.heap.size∧w'.cell? ⟨B1,0,none⟩ = some (.slice (some ⟨b,off,none⟩) len cap)∧w'.cell? ⟨B2,0,none⟩ = some (.int .i64 63)∧Gr w w':=by
 obtain ⟨w9,hw9⟩:∃ w9,w9 = (w.alloc (.cells #[.slice (some ⟨b,off,none⟩) len cap] 91)).alloc (.cells #[.int .i64 63] 3):=⟨_,rfl⟩
 have gU:Gr w w9:=by rw [hw9];exact ((Gr.refl w).alloc _).alloc _
 have hA:Blk w9 w.heap.size #[.slice (some ⟨b,off,none⟩) len cap] 91:=by rw [hw9];exact (Blk.new _ _ _).alloc _
 have hB:Blk w9 (w.heap.size + 1) #[.int .i64 63] 3:=by rw [hw9];exact Blk.new1 (by simp)
 have c1:=hA.cell (i:=0) (v:=.slice (some ⟨b,off,none⟩) len cap) rfl;have c2:=hB.cell (i:=0) (v:=.int .i64 63) rfl;have z1:=hA.lt;have z2:=hB.lt;replace hA:=Lib.hid hA;replace hB:=Lib.hid hB;replace hw9:=Lib.hid hw9;go_enter Tryz.func123,Tryz.ntmps123;go_upto_region 1 with fail
 rw [← hw9.out];go_wp2_with fail;go_ret;exact ⟨_,_,rfl,z1,z2,c1,c2,gU⟩
end Go.Proofs.YteigofaccjaobaaGreatDoor
namespace Go.Proofs.YteigofaccjaobaaGreatDoor
open Go.RowKit
theorem both_lost {G:List Nat} {E:Nat→Addr} (w:World) (hE:EAt G E w) (i4:0 ∈ G) (i5:1 ∈ G) {db:Nat} {M:DskM} (h:DskAt w db M) (hl:M.d.lost = true) (hn:4≤M.d.n) :
 Calls Tryz.prog 73 #[.pointer (some ⟨db,0,none⟩)] w fun e w' => e = .returned (.tuple #[.agg arZ,.agg arZ,lostE E])∧Gr w w':=by
 obtain ⟨wB,hwB⟩:∃ wB,wB = (w.alloc (.cells arZ 158)).alloc (.cells arZ 158):=⟨_,rfl⟩
 have gB:Gr w wB:=by rw [hwB];exact ((Gr.refl w).alloc _).alloc _
 have hZ:Blk wB w.heap.size arZ 158:=by rw [hwB];exact (Blk.new _ _ _).alloc _
 have hY:Blk wB (w.heap.size + 1) arZ 158:=by rw [hwB];exact Blk.new1 (by simp)
 have hse:∀ w1,Gr wB w1→Calls Tryz.prog 114 #[.pointer (some ⟨db,0,none⟩)] w1 fun e w' => e = .returned (.int .i64 M.d.n)∧w' = w1:=fun w1 g => dsectors_any w1 (h.gr (gB.trans g))
 have t0:decide ((M.d.n:Int) < 4) = false:=decide_eq_false (by omega);have hn1:=h.ok.n1;have hhe:((M.d.n:Int) - 2) / 2 = (halfD M.d:Int):=by unfold halfD;omega
 have hh1:1≤halfD M.d:=by unfold halfD;omega
 have hh2:halfD M.d≤511:=by unfold halfD;omega
 have hh3:halfD M.d + halfD M.d≤M.d.n:=by unfold halfD;omega
 have hsc:Calls Tryz.prog 115 #[.pointer (some ⟨db,0,none⟩),.int .i64 0,.int .i64 (halfD M.d:Int)] wB fun e w' => e = .returned (.tuple #[.agg arZ,lostE E])∧Gr wB w':=scan_no wB (hE.gr gB) i4 i5 (h.gr gB) hl 0 (halfD M.d) (by omega) hh1
 obtain ⟨N,hN⟩:∃ N,N = M.d.n:=⟨_,rfl⟩
 obtain ⟨H,hH⟩:∃ H,H = halfD M.d:=⟨_,rfl⟩
 rw [← hN] at hse t0 hhe hn1 hn;rw [← hH] at hhe hsc;have hse0:=hse wB (Gr.refl _);clear hse hh1 hh2 hh3;replace hN:=Lib.hid hN;replace hH:=Lib.hid hH;replace hse0:=Lib.hid hse0;replace hsc:=Lib.hid hsc;replace hwB:=Lib.hid hwB;replace h:=Lib.hid h;replace hZ:=Lib.hid hZ;replace hY:=Lib.hid hY;replace hl:=Lib.hid hl;go_enter Tryz.func73,Tryz.ntmps73;go_upto_region 1 with fail
 rw [← hwB.out];go_wp2_with fail;refine hse0.out.mono ?_;rintro e w1 ⟨rfl,hw1⟩;subst w1;go_wp2_with fail;refine hse0.out.mono ?_;rintro e w1 ⟨rfl,hw1⟩;subst w1;go_wp2_with fail;refine hsc.out.mono ?_;rintro e w2 ⟨rfl,g2⟩;obtain ⟨w3,hw3⟩:∃ w3,w3 = w2.alloc (.cells arZ 158):=⟨_,rfl⟩
 have g23:Gr w2 w3:=by rw [hw3];exact (Gr.refl _).alloc _
 have g03:=gB.trans (g2.trans g23);have hZ3:=hZ.out.gr (g2.trans g23);have hY3:=hY.out.gr (g2.trans g23);have gf:=g03.set8 (b:=w.heap.size) (b':=w.heap.size + 1) (Nat.le_refl _) (by omega) (.int .i64 0) (.int .i64 0) (.int .i64 0) (.slice none 0 0) (.int .i64 0) (.int .i64 0) (.int .i64 0) (.slice none 0 0);have gu:=((hZ3.set4 rfl (.int .i64 0) (.int .i64 0) (.int .i64 0) (.slice none 0 0)).off4 (b':=w.heap.size + 1) (by omega) (.int .i64 0) (.int .i64 0) (.int .i64 0) (.slice none 0 0))
 have gv:=((hY3.off4 (b':=w.heap.size) (by omega) (.int .i64 0) (.int .i64 0) (.int .i64 0) (.slice none 0 0)).set4 rfl (.int .i64 0) (.int .i64 0) (.int .i64 0) (.slice none 0 0))
 have f0:=hZ3.free 0;have f1:=hZ3.free 1;have f2:=hZ3.free 2;have f3:=hZ3.free 3;have b0:=hZ3.cell (i:=0) (v:=.int .i64 0) rfl;have b1:=hZ3.cell (i:=1) (v:=.int .i64 0) rfl;have b2:=hZ3.cell (i:=2) (v:=.int .i64 0) rfl;have b3:=hZ3.cell (i:=3) (v:=.slice none 0 0) rfl;have zb:=hZ3.lt;have fy0:=hY3.free 0;have fy1:=hY3.free 1;have fy2:=hY3.free 2;have fy3:=hY3.free 3;have by0:=hY3.cell (i:=0) (v:=.int .i64 0) rfl;have by1:=hY3.cell (i:=1) (v:=.int .i64 0) rfl;have by2:=hY3.cell (i:=2) (v:=.int .i64 0) rfl;have by3:=hY3.cell (i:=3) (v:=.slice none 0 0) rfl;have zby:=hY3.lt;replace hZ3:=Lib.hid hZ3;replace hY3:=Lib.hid hY3;replace gf:=Lib.hid gf;replace gu:=Lib.hid gu;replace gv:=Lib.hid gv;replace hw3:=Lib.hid hw3;go_upto_region 5 with fail
 rw [← hw3.out];go_wp2_with fail;refine bodyPost_ret (v:=.tuple #[.agg arZ,.agg arZ,lostE E]) ?_ rfl ⟨rfl,gf.out⟩;exact (res_cc (b:=w.heap.size) (b':=w.heap.size + 1) (t:=158) (t':=158) Tryz.results73 _ _ gu.out gv.out rfl rfl Tryz.underlying158 Tryz.underlying158 (by kernel_rfl) (by kernel_rfl)).trans rfl
set_option maxRecDepth 100000 in
set_option maxHeartbeats 6400000 in
theorem both_yes {G:List Nat} {E:Nat→Addr} (w:World) (hE:EAt G E w) (i4:0 ∈ G) (i5:1 ∈ G) (i1:3 ∈ G) (i2:9 ∈ G) (i3:5 ∈ G) {db:Nat} {M:DskM} (h:DskAt w db M) (hl:M.d.lost = false) (hC:M.d.C.length≤1000000) (hn:4≤M.d.n) :
 Calls Tryz.prog 73 #[.pointer (some ⟨db,0,none⟩)] w (BothP M.d w):=by
 obtain ⟨wB,hwB⟩:∃ wB,wB = (w.alloc (.cells arZ 158)).alloc (.cells arZ 158):=⟨_,rfl⟩
 have gB:Gr w wB:=by rw [hwB];exact ((Gr.refl w).alloc _).alloc _
 have hZ:Blk wB w.heap.size arZ 158:=by rw [hwB];exact (Blk.new _ _ _).alloc _
 have hY:Blk wB (w.heap.size + 1) arZ 158:=by rw [hwB];exact Blk.new1 (by simp)
 have hse:∀ w1,Gr wB w1→Calls Tryz.prog 114 #[.pointer (some ⟨db,0,none⟩)] w1 fun e w' => e = .returned (.int .i64 M.d.n)∧w' = w1:=fun w1 g => dsectors_any w1 (h.gr (gB.trans g))
 have t0:decide ((M.d.n:Int) < 4) = false:=decide_eq_false (by omega);have hn1:=h.ok.n1;have hhe:((M.d.n:Int) - 2) / 2 = (halfD M.d:Int):=by unfold halfD;omega
 have hh1:1≤halfD M.d:=by unfold halfD;omega
 have hh2:halfD M.d≤511:=by unfold halfD;omega
 have hh3:halfD M.d + halfD M.d≤M.d.n:=by unfold halfD;omega
 have hsA:Calls Tryz.prog 115 #[.pointer (some ⟨db,0,none⟩),.int .i64 0,.int .i64 (halfD M.d:Int)] wB (ScnP M.d 0 (halfD M.d) wB):=scan_yes wB (hE.gr gB) i4 i5 i1 i2 i3 (h.gr gB) hl hC 0 (halfD M.d) (by omega) hh1 (by omega);have hsB:∀ w1,Gr wB w1→Calls Tryz.prog 115 #[.pointer (some ⟨db,0,none⟩),.int .i64 (halfD M.d:Int),.int .i64 (halfD M.d:Int)] w1 (ScnP M.d (halfD M.d) (halfD M.d) w1):=fun w1 g => scan_yes w1 (hE.gr (gB.trans g)) i4 i5 i1 i2 i3 (h.gr (gB.trans g)) hl hC (halfD M.d) (halfD M.d) hh3 hh1 (by omega)
 obtain ⟨N,hN⟩:∃ N,N = M.d.n:=⟨_,rfl⟩
 obtain ⟨H,hH⟩:∃ H,H = halfD M.d:=⟨_,rfl⟩
 rw [← hN] at hse t0 hhe hn1 hn;rw [← hH] at hhe hsA hsB hh2;have hse0:=hse wB (Gr.refl _);clear hse hh1 hh3;obtain ⟨LA,hLA⟩:∃ LA,LA = areaF (secL M.d 0 H):=⟨_,rfl⟩
 obtain ⟨LB,hLB⟩:∃ LB,LB = areaF (secL M.d H H):=⟨_,rfl⟩
 have hLA2:areaA M.d = LA:=by rw [hLA,hH];rfl
 have hLB2:areaB M.d = LB:=by rw [hLB,hH];rfl
 replace hN:=Lib.hid hN;replace hH:=Lib.hid hH;replace hse0:=Lib.hid hse0;replace hsA:=Lib.hid hsA;replace hsB:=Lib.hid hsB;replace hwB:=Lib.hid hwB;replace h:=Lib.hid h;replace hZ:=Lib.hid hZ;replace hY:=Lib.hid hY;replace hl:=Lib.hid hl;replace hLA:=Lib.hid hLA;replace hLB:=Lib.hid hLB;replace hLA2:=Lib.hid hLA2;replace hLB2:=Lib.hid hLB2;go_enter Tryz.func73,Tryz.ntmps73;go_upto_region 1 with fail
 rw [← hwB.out];go_wp2_with fail;refine hse0.out.mono ?_;rintro e w1 ⟨rfl,hw1⟩;subst w1;go_wp2_with fail;refine hse0.out.mono ?_;rintro e w1 ⟨rfl,hw1⟩;subst w1;go_wp2_with fail;refine hsA.out.mono ?_;rintro e w2 ⟨g2,RA,raA,rcA,hRA,rfl,hoA⟩;rw [← hLA.out] at hRA ⊢;obtain ⟨uA,huA⟩:∃ uA,uA = usedR LA:=⟨_,rfl⟩
 rw [← huA];obtain ⟨nA,hnA⟩:∃ nA,nA = RA.length:=⟨_,rfl⟩
 rw [← hnA];obtain ⟨w3,hw3⟩:∃ w3,w3 = w2.alloc (.cells #[.int .i64 0,.int .i64 H,.int .i64 uA,.slice raA nA rcA] 158):=⟨_,rfl⟩
 have g23:Gr w2 w3:=by rw [hw3];exact (Gr.refl _).alloc _
 have g13:=g2.trans g23;obtain ⟨n6,hn6⟩:∃ n6,n6 = w2.heap.size:=⟨_,rfl⟩
 have hA3:Blk w3 n6 #[.int .i64 0,.int .i64 H,.int .i64 uA,.slice raA nA rcA] 158:=by rw [hw3,hn6];exact Blk.new _ _ _
 have hsB3:=hsB.out w3 g13;replace hsB3:=Lib.hid hsB3;replace hA3:=Lib.hid hA3;replace hoA:=Lib.hid hoA;replace hRA:=Lib.hid hRA;replace huA:=Lib.hid huA;replace hnA:=Lib.hid hnA;replace hn6:=Lib.hid hn6;replace hw3:=Lib.hid hw3;go_upto_region 5 with fail
 rw [← hw3.out,← hn6.out];go_wp2_with fail;refine hsB3.out.mono ?_;rintro e w4 ⟨g34,RB,raB,rcB,hRB,rfl,hoB⟩;rw [← hLB.out] at hRB ⊢;obtain ⟨uB,huB⟩:∃ uB,uB = usedR LB:=⟨_,rfl⟩
 rw [← huB];obtain ⟨nB,hnB⟩:∃ nB,nB = RB.length:=⟨_,rfl⟩
 rw [← hnB];obtain ⟨w5,hw5⟩:∃ w5,w5 = w4.alloc (.cells #[.int .i64 H,.int .i64 H,.int .i64 uB,.slice raB nB rcB] 158):=⟨_,rfl⟩
 have g45:Gr w4 w5:=by rw [hw5];exact (Gr.refl _).alloc _
 obtain ⟨n8,hn8⟩:∃ n8,n8 = w4.heap.size:=⟨_,rfl⟩
 have hB5:Blk w5 n8 #[.int .i64 H,.int .i64 H,.int .i64 uB,.slice raB nB rcB] 158:=by rw [hw5,hn8];exact Blk.new _ _ _
 have g35:=g34.trans g45;have hA5:=hA3.out.gr g35;have hoA5:=(hoA.out.gr g23).gr g35;have hoB5:=hoB.gr g45;have hnbA:Calls Tryz.prog 75 #[.pointer (some ⟨n6,0,none⟩)] w5 fun e w' => e = .returned (.int .i64 (numF LA:Int))∧w' = w5:=by
  have:=number_area wB w5 n6 0 H uA raA rcA RA (by rw [← hnA.out];exact hA5) hoA5;rw [hRA.out] at this;exact this
 have hnbB:Calls Tryz.prog 75 #[.pointer (some ⟨n8,0,none⟩)] w5 fun e w' => e = .returned (.int .i64 (numF LB:Int))∧w' = w5:=by
  have:=number_area w3 w5 n8 H H uB raB rcB RB (by rw [← hnB];exact hB5) hoB5;rw [hRB] at this;exact this
 have g05:=gB.trans (g13.trans g35);have hZ5:=hZ.out.gr (g13.trans g35);have hY5:=hY.out.gr (g13.trans g35);have hs1:=gB.size;have hs2:=g2.size;have hs3:=g23.size;have hs4:=g34.size;have hzY:=hY.out.lt;have h6a:w.heap.size < n6:=by have:=hn6.out;omega
 have h6b:w.heap.size + 1 < n6:=by have:=hn6.out;omega
 have h8a:w.heap.size < n8:=by omega
 have h8b:w.heap.size + 1 < n8:=by omega
 have p1:n6 ≠ w.heap.size:=by omega
 have p2:n6 ≠ w.heap.size + 1:=by omega
 have p3:n8 ≠ w.heap.size:=by omega
 have p4:n8 ≠ w.heap.size + 1:=by omega
 have p5:w.heap.size ≠ n6:=by omega
 have p6:w.heap.size + 1 ≠ n6:=by omega
 have p7:w.heap.size ≠ n8:=by omega
 have p8:w.heap.size + 1 ≠ n8:=by omega
 have a0:=hA5.cell (i:=0) (v:=.int .i64 0) rfl;have a1:=hA5.cell (i:=1) (v:=.int .i64 H) rfl;have a2:=hA5.cell (i:=2) (v:=.int .i64 uA) rfl;have a3:=hA5.cell (i:=3) (v:=.slice raA nA rcA) rfl;have za:=hA5.lt;have d0:=hB5.cell (i:=0) (v:=.int .i64 H) rfl;have d1:=hB5.cell (i:=1) (v:=.int .i64 H) rfl;have d2:=hB5.cell (i:=2) (v:=.int .i64 uB) rfl;have d3:=hB5.cell (i:=3) (v:=.slice raB nB rcB) rfl;have zd:=hB5.lt;have f0:=hZ5.free 0;have f1:=hZ5.free 1;have f2:=hZ5.free 2;have f3:=hZ5.free 3;have b0:=hZ5.cell (i:=0) (v:=.int .i64 0) rfl;have b1:=hZ5.cell (i:=1) (v:=.int .i64 0) rfl;have b2:=hZ5.cell (i:=2) (v:=.int .i64 0) rfl;have b3:=hZ5.cell (i:=3) (v:=.slice none 0 0) rfl;have zb:=hZ5.lt;have fy0:=hY5.free 0;have fy1:=hY5.free 1;have fy2:=hY5.free 2;have fy3:=hY5.free 3;have by0:=hY5.cell (i:=0) (v:=.int .i64 0) rfl;have by1:=hY5.cell (i:=1) (v:=.int .i64 0) rfl;have by2:=hY5.cell (i:=2) (v:=.int .i64 0) rfl;have by3:=hY5.cell (i:=3) (v:=.slice none 0 0) rfl;have zby:=hY5.lt;obtain ⟨mA,hmA⟩:∃ mA,mA = numF LA:=⟨_,rfl⟩
 obtain ⟨mB,hmB⟩:∃ mB,mB = numF LB:=⟨_,rfl⟩
 rw [← hmA] at hnbA;rw [← hmB] at hnbB;have hsec:secondD M.d = decide (mA < mB):=by unfold secondD;rw [hLA2.out,hLB2.out,hmA,hmB]
 have hdR:∀ x,raA = some x→x.block ≠ w.heap.size∧x.block ≠ w.heap.size + 1:=fun x hx => by have:=(hoA5.lo x hx).1;omega
 have hdA:∀ x ∈ RA,∀ y,x.a = some y→y.block ≠ w.heap.size∧y.block ≠ w.heap.size + 1:=fun x hx y hy => by have:=(hoA5.d x hx).2.2.2 y hy;omega
 have hdS:∀ x,raB = some x→x.block ≠ w.heap.size∧x.block ≠ w.heap.size + 1:=fun x hx => by have:=(hoB5.lo x hx).1;omega
 have hdB:∀ x ∈ RB,∀ y,x.a = some y→y.block ≠ w.heap.size∧y.block ≠ w.heap.size + 1:=fun x hx y hy => by have:=(hoB5.d x hx).2.2.2 y hy;omega
 replace hmA:=Lib.hid hmA;replace hmB:=Lib.hid hmB;replace hsec:=Lib.hid hsec;replace hnbA:=Lib.hid hnbA;replace hnbB:=Lib.hid hnbB;replace hA5:=Lib.hid hA5;replace hB5:=Lib.hid hB5;replace hZ5:=Lib.hid hZ5;replace hY5:=Lib.hid hY5;replace hoA5:=Lib.hid hoA5;replace hoB5:=Lib.hid hoB5;replace hoB:=Lib.hid hoB;replace hRB:=Lib.hid hRB;replace huB:=Lib.hid huB;replace hnB:=Lib.hid hnB;replace hn8:=Lib.hid hn8;replace hw5:=Lib.hid hw5;replace hdR:=Lib.hid hdR;replace hdA:=Lib.hid hdA;replace hdS:=Lib.hid hdS;replace hdB:=Lib.hid hdB;go_upto_region 8 with fail
 rw [← hw5.out,← hn8.out];go_wp2_with fail;refine hnbB.out.mono ?_;rintro e w6 ⟨rfl,hw6⟩;subst w6;go_wp2_with fail;refine hnbA.out.mono ?_;rintro e w7 ⟨rfl,hw7⟩;subst w7;by_cases hcmp:mA < mB
 ·have hsc:secondD M.d = true:=by rw [hsec.out];exact decide_eq_true hcmp
  have hnw:newR M.d = LB:=by unfold newR;rw [hsc];exact hLB2.out
  have gf:=(g05.set8 (b:=w.heap.size) (b':=w.heap.size + 1) (Nat.le_refl _) (by omega) (.int .i64 H) (.int .i64 H) (.int .i64 uB) (.slice raB nB rcB) (.int .i64 0) (.int .i64 H) (.int .i64 uA) (.slice raA nA rcA)).drew;have gu:=((hZ5.out.set4 rfl (.int .i64 H) (.int .i64 H) (.int .i64 uB) (.slice raB nB rcB)).off4 (b':=w.heap.size + 1) (by omega) (.int .i64 0) (.int .i64 H) (.int .i64 uA) (.slice raA nA rcA)).drew;have gv:=((hY5.out.off4 (b':=w.heap.size) (by omega) (.int .i64 H) (.int .i64 H) (.int .i64 uB) (.slice raB nB rcB)).set4 rfl (.int .i64 0) (.int .i64 H) (.int .i64 uA) (.slice raA nA rcA)).drew;have hof:=(((hoB5.out.older (W:=w) (by omega)).set4 (b:=w.heap.size) (fun x hx => (hdS.out x hx).1) (fun x hx y hy => (hdB.out x hx y hy).1) (.int .i64 H) (.int .i64 H) (.int .i64 uB) (.slice raB nB rcB)).set4 (b:=w.heap.size + 1) (fun x hx => (hdS.out x hx).2) (fun x hx y hy => (hdB.out x hx y hy).2) (.int .i64 0) (.int .i64 H) (.int .i64 uA) (.slice raA nA rcA)).gr (Gr.refl _).drew;have hcq:(mA:Int) < mB:=by omega
  have hcb:decide ((mA:Int) < mB) = true:=decide_eq_true (by omega);replace hsc:=Lib.hid hsc;replace hnw:=Lib.hid hnw;replace gf:=Lib.hid gf;replace gu:=Lib.hid gu;replace gv:=Lib.hid gv;replace hof:=Lib.hid hof;go_upto_region 11 with fail
  go_region_held3 (fun w' => w'.cell? ⟨n8,0,none⟩ = some (.int .i64 H)∧w'.cell? ⟨n8,1,none⟩ = some (.int .i64 H)∧w'.cell? ⟨n8,2,none⟩ = some (.int .i64 uB)∧w'.cell? ⟨n8,3,none⟩ = some (.slice raB nB rcB)∧w'.cell? ⟨n6,0,none⟩ = some (.int .i64 0)∧w'.cell? ⟨n6,1,none⟩ = some (.int .i64 H)∧w'.cell? ⟨n6,2,none⟩ = some (.int .i64 uA)∧w'.cell? ⟨n6,3,none⟩ = some (.slice raA nA rcA)) (simp (maxDischargeDepth:=8) [go_sem, *])
   (first | fail)
  go_wp2_with fail;refine bodyPost_ret (v:=.tuple #[.agg #[.int .i64 H,.int .i64 H,.int .i64 uB,.slice raB nB rcB],.agg #[.int .i64 0,.int .i64 H,.int .i64 uA,.slice raA nA rcA],.nilIface]) ?_ rfl ⟨gf.out,RB,raB,rcB,raA,nA,rcA,uA,?_,?_,hof.out⟩
  ·exact (res_cc (b:=w.heap.size) (b':=w.heap.size + 1) (t:=158) (t':=158) Tryz.results73 _ _ gu.out gv.out rfl rfl Tryz.underlying158 Tryz.underlying158 (by kernel_rfl) (by kernel_rfl)).trans rfl
  ·rw [hnw.out];exact hRB.out
  ·rw [hnw.out,hsc.out,← hnB.out,← huB.out];unfold firstD;rw [← hH.out];rfl
 ·have hsc:secondD M.d = false:=by rw [hsec.out];exact decide_eq_false hcmp
  have hnw:newR M.d = LA:=by unfold newR;rw [hsc];exact hLA2.out
  have gf:=(g05.set8 (b:=w.heap.size) (b':=w.heap.size + 1) (Nat.le_refl _) (by omega) (.int .i64 0) (.int .i64 H) (.int .i64 uA) (.slice raA nA rcA) (.int .i64 H) (.int .i64 H) (.int .i64 uB) (.slice raB nB rcB)).drew;have gu:=((hZ5.out.set4 rfl (.int .i64 0) (.int .i64 H) (.int .i64 uA) (.slice raA nA rcA)).off4 (b':=w.heap.size + 1) (by omega) (.int .i64 H) (.int .i64 H) (.int .i64 uB) (.slice raB nB rcB)).drew;have gv:=((hY5.out.off4 (b':=w.heap.size) (by omega) (.int .i64 0) (.int .i64 H) (.int .i64 uA) (.slice raA nA rcA)).set4 rfl (.int .i64 H) (.int .i64 H) (.int .i64 uB) (.slice raB nB rcB)).drew;have hof:=(((hoA5.out.older (W:=w) (by omega)).set4 (b:=w.heap.size) (fun x hx => (hdR.out x hx).1) (fun x hx y hy => (hdA.out x hx y hy).1) (.int .i64 0) (.int .i64 H) (.int .i64 uA) (.slice raA nA rcA)).set4 (b:=w.heap.size + 1) (fun x hx => (hdR.out x hx).2) (fun x hx y hy => (hdA.out x hx y hy).2) (.int .i64 H) (.int .i64 H) (.int .i64 uB) (.slice raB nB rcB)).gr (Gr.refl _).drew;have hcq:¬ (mA:Int) < mB:=by omega
  have hcb:decide ((mA:Int) < mB) = false:=decide_eq_false (by omega);replace hsc:=Lib.hid hsc;replace hnw:=Lib.hid hnw;replace gf:=Lib.hid gf;replace gu:=Lib.hid gu;replace gv:=Lib.hid gv;replace hof:=Lib.hid hof;go_upto_region 12 with fail
  go_region_held3 (fun w' => w'.cell? ⟨n6,0,none⟩ = some (.int .i64 0)∧w'.cell? ⟨n6,1,none⟩ = some (.int .i64 H)∧w'.cell? ⟨n6,2,none⟩ = some (.int .i64 uA)∧w'.cell? ⟨n6,3,none⟩ = some (.slice raA nA rcA)∧w'.cell? ⟨n8,0,none⟩ = some (.int .i64 H)∧w'.cell? ⟨n8,1,none⟩ = some (.int .i64 H)∧w'.cell? ⟨n8,2,none⟩ = some (.int .i64 uB)∧w'.cell? ⟨n8,3,none⟩ = some (.slice raB nB rcB)) (simp (maxDischargeDepth:=8) [go_sem, *])
   (first | fail)
  go_wp2_with fail;refine bodyPost_ret (v:=.tuple #[.agg #[.int .i64 0,.int .i64 H,.int .i64 uA,.slice raA nA rcA],.agg #[.int .i64 H,.int .i64 H,.int .i64 uB,.slice raB nB rcB],.nilIface]) ?_ rfl ⟨gf.out,RA,raA,rcA,raB,nB,rcB,uB,?_,?_,hof.out⟩
  ·exact (res_cc (b:=w.heap.size) (b':=w.heap.size + 1) (t:=158) (t':=158) Tryz.results73 _ _ gu.out gv.out rfl rfl Tryz.underlying158 Tryz.underlying158 (by kernel_rfl) (by kernel_rfl)).trans rfl
  ·rw [hnw.out];exact hRA.out
  ·rw [hnw.out,hsc.out,← hnA.out,← huA.out];unfold firstD;rw [← hH.out];rfl
end Go.Proofs.YteigofaccjaobaaGreatDoor
namespace Go.Proofs.YteigofaccjaobaaGreatDoor
section
variable {P:Program} {ops:Array Oper} {Q:Exit→Act→World→Prop} {md:Region.Mode} {S T:World→Prop}
def noneZ (z:List Nat) (listed:Array Bool):Bool:=z.all fun k => !(listed.getD k true)
theorem noneZ_spec {z:List Nat} {l:Array Bool}:noneZ z l = true ↔ ∀ k ∈ z,l.getD k true = false:=by
 unfold noneZ;rw [List.all_eq_true];exact ⟨fun h k hk => by simpa using h k hk,fun h k hk => by simpa using h k hk⟩
theorem noneZ_keep {z:List Nat} {l:Array Bool} {j:Nat} (h:noneZ z l = true) (hj:j ∉ z):noneZ z (l.setIfInBounds j true) = true :=
 noneZ_spec.2 fun k hk => by
  have hjk:j ≠ k:=fun e => hj (e ▸ hk)
  rw [getD_set_ne true hjk];exact noneZ_spec.1 h k hk
theorem noneZ_back {z:List Nat} {l:Array Bool} {j:Nat} (h:noneZ z (l.setIfInBounds j true) = true):noneZ z l = true :=
 noneZ_spec.2 fun k hk => by
  have h1:=noneZ_spec.1 h k hk;by_cases hjk:j = k
  ·subst hjk;by_cases hb:j < l.size
   ·simp [hb] at h1
   ·simp [hb] at h1
  ·rwa [getD_set_ne true hjk] at h1
def wpAnyX (P:Program) (md:Region.Mode) (ops:Array Oper) (Q:Exit→Act→World→Prop) (S T:World→Prop) (z:List Nat):Nat→Array Bool→Act→World→Prop
 | 0,listed,a,w => Region.ready md ops listed = []∧Q .normal a w
 | fuel + 1,listed,a,w =>
  (Region.ready md ops listed = []→Q .normal a w) ∧
  ∀ i ∈ Region.ready md ops listed,wpOp P ops Q i (fun a' w' => ((noneZ z (listed.setIfInBounds i true) = true→S w')∧T w')∧wpAnyX P md ops Q S T z fuel (listed.setIfInBounds i true) a' w') a w
theorem wpAny_of_X {z:List Nat}:∀ (fuel:Nat) (listed:Array Bool) (a:Act) (w:World),wpAnyX P md ops Q S T z fuel listed a w→wpAny P md ops Q fuel listed a w
 | 0,_,_,_,h => h
 | fuel + 1,_,_,_,h => ⟨h.1,fun i hi => wpOp_mono (fun a' w' h' => wpAny_of_X fuel _ a' w' h'.2) (h.2 i hi)⟩
theorem wpAnyX_firstS {z:List Nat} {i:Nat} {oi:Oper} {v:Value} (hi:ops[i]? = some oi) (hsel:∀ (j:Nat) (o:Oper) cs b,ops[j]? = some o→o.op ≠ .select cs b)
 (hiz:i ∉ z) (hQ:∀ c a w,Q (.panic c) (a.put oi.dst v) w→Q (.panic c) a w) (hz:(z.all fun k => Region.waitsFor md ops k i) = true) :
 ∀ (fuel:Nat) (listed:Array Bool) (a:Act) (w:World),
  (∀ j oj,ops[j]? = some oj→j ≠ i→listed.getD j true = false→(∀ e ∈ oj.after,Region.binds md e = true→e.on ≠ i)→oi.apart ops oj = true) →
  i ∈ Region.ready md ops listed→YieldsIf P ops (fun w => S w∧T w) oi v a→S w∧T w→noneZ z listed = true →
  wpAnyX P md ops Q S T z fuel (listed.setIfInBounds i true) (a.put oi.dst v) w→wpAnyX P md ops Q S T z (fuel + 1) listed a w:=by
 intro fuel;induction fuel with
 | zero =>
  intro listed a w _ hr hy hS _ H;refine ⟨fun h => (by rw [h] at hr;cases hr),fun j hj => ?_⟩;by_cases hji:j = i
  ·subst hji;exact hy.wpOp hi hS ⟨⟨fun _ => hS.1,hS.2⟩,H⟩
  ·have:=ready_mono hj hji;rw [H.1] at this;cases this
 | succ fuel ih =>
  intro listed a w hfree hr hy hS hn H;refine ⟨fun h => (by rw [h] at hr;cases hr),fun j hj => ?_⟩;by_cases hji:j = i
  ·subst hji;exact hy.wpOp hi hS ⟨⟨fun _ => hS.1,hS.2⟩,H⟩
  ·have h1:=H.2 j (ready_mono hj hji);obtain ⟨hjun,oj,hoj,hall⟩:=mem_ready.1 hj;have hnot:∀ e ∈ oj.after,Region.binds md e = true→e.on ≠ i:=fun e he hb heq => by
    have h1:=hall e he hb;have h0:=(mem_ready.1 hr).1;rw [heq] at h1;rcases Nat.lt_or_ge i listed.size with h' | h'
    ·simp [h'] at h0 h1;rw [h0] at h1;cases h1
    ·simp [Array.getElem?_eq_none h'] at h1
   have hjz:j ∉ z:=fun e => by
    obtain ⟨oz,hoz,e,he,hb,hon⟩:=Region.waitsFor_spec (List.all_eq_true.1 hz j e);have:oz = oj:=Option.some.inj (hoz.symm.trans hoj);subst this;exact hnot e he hb hon
   have h2:=wpOp_putIf hoj (hfree j oj hoj hji hjun hnot) (fun cs b => hsel i oi cs b hi) (fun cs b => hsel j oj cs b hoj) hQ hy h1;have hfree':∀ k ok,ops[k]? = some ok→k ≠ i→(listed.setIfInBounds j true).getD k true = false →
    (∀ e ∈ ok.after,Region.binds md e = true→e.on ≠ i)→oi.apart ops ok = true:=fun k ok hk hki hun hno => by
    refine hfree k ok hk hki ?_ hno;by_cases hjk:j = k
    ·subst hjk;exact hjun
    ·rw [getD_set_ne true hjk] at hun;exact hun
   refine wpOp_mono (fun a' w' h3 => ?_) h2;have hc:noneZ z (listed.setIfInBounds j true) = true→S w':=fun h => h3.2.1.1 (by rw [Array.setIfInBounds_comm _ _ (Ne.symm hji)];exact noneZ_keep h hiz)
   refine ⟨⟨hc,h3.2.1.2⟩,ih (listed.setIfInBounds j true) a' w' hfree' (ready_mono hr (Ne.symm hji)) h3.1 ⟨hc (noneZ_keep hn hjz),h3.2.1.2⟩ (noneZ_keep hn hjz) ?_⟩;rw [Array.setIfInBounds_comm _ _ hji];exact h3.2.2
theorem wpAnyX_firstT {z:List Nat} {i:Nat} {oi:Oper} {v:Value} (hi:ops[i]? = some oi) (hsel:∀ (j:Nat) (o:Oper) cs b,ops[j]? = some o→o.op ≠ .select cs b)
 (hiz:i ∉ z) (hQ:∀ c a w,Q (.panic c) (a.put oi.dst v) w→Q (.panic c) a w) :
 ∀ (fuel:Nat) (listed:Array Bool) (a:Act) (w:World),
  (∀ j oj,ops[j]? = some oj→j ≠ i→listed.getD j true = false→(∀ e ∈ oj.after,Region.binds md e = true→e.on ≠ i)→oi.apart ops oj = true) →
  i ∈ Region.ready md ops listed→YieldsIf P ops T oi v a→T w→(noneZ z listed = true→S w) →
  wpAnyX P md ops Q S T z fuel (listed.setIfInBounds i true) (a.put oi.dst v) w→wpAnyX P md ops Q S T z (fuel + 1) listed a w:=by
 intro fuel;induction fuel with
 | zero =>
  intro listed a w _ hr hy hT hS H;refine ⟨fun h => (by rw [h] at hr;cases hr),fun j hj => ?_⟩;by_cases hji:j = i
  ·subst hji;exact hy.wpOp hi hT ⟨⟨fun h => hS (noneZ_back h),hT⟩,H⟩
  ·have:=ready_mono hj hji;rw [H.1] at this;cases this
 | succ fuel ih =>
  intro listed a w hfree hr hy hT hS H;refine ⟨fun h => (by rw [h] at hr;cases hr),fun j hj => ?_⟩;by_cases hji:j = i
  ·subst hji;exact hy.wpOp hi hT ⟨⟨fun h => hS (noneZ_back h),hT⟩,H⟩
  ·have h1:=H.2 j (ready_mono hj hji);obtain ⟨hjun,oj,hoj,hall⟩:=mem_ready.1 hj;have hnot:∀ e ∈ oj.after,Region.binds md e = true→e.on ≠ i:=fun e he hb heq => by
    have h1:=hall e he hb;have h0:=(mem_ready.1 hr).1;rw [heq] at h1;rcases Nat.lt_or_ge i listed.size with h' | h'
    ·simp [h'] at h0 h1;rw [h0] at h1;cases h1
    ·simp [Array.getElem?_eq_none h'] at h1
   have h2:=wpOp_putIf hoj (hfree j oj hoj hji hjun hnot) (fun cs b => hsel i oi cs b hi) (fun cs b => hsel j oj cs b hoj) hQ hy h1;have hfree':∀ k ok,ops[k]? = some ok→k ≠ i→(listed.setIfInBounds j true).getD k true = false →
    (∀ e ∈ ok.after,Region.binds md e = true→e.on ≠ i)→oi.apart ops ok = true:=fun k ok hk hki hun hno => by
    refine hfree k ok hk hki ?_ hno;by_cases hjk:j = k
    ·subst hjk;exact hjun
    ·rw [getD_set_ne true hjk] at hun;exact hun
   refine wpOp_mono (fun a' w' h3 => ?_) h2;have hc:noneZ z (listed.setIfInBounds j true) = true→S w':=fun h => h3.2.1.1 (by rw [Array.setIfInBounds_comm _ _ (Ne.symm hji)];exact noneZ_keep h hiz)
   refine ⟨⟨hc,h3.2.1.2⟩,ih (listed.setIfInBounds j true) a' w' hfree' (ready_mono hr (Ne.symm hji)) h3.1 h3.2.1.2 hc ?_⟩;rw [Array.setIfInBounds_comm _ _ hji];exact h3.2.2
theorem wpAnyX_takeS {z:List Nat} {i:Nat} {oi:Oper} {v:Value} {fuel:Nat} {listed:Array Bool} {a:Act} {w:World} (hi:ops[i]? = some oi)
 (hs:Region.noSelect ops = true) (hf:Region.free md ops listed i = true) (hr:(Region.ready md ops listed).contains i = true) (hz:(z.all fun k => Region.waitsFor md ops k i) = true) (hn:noneZ z listed = true)
 (hiz:i ∉ z) (hQ:∀ c a w,Q (.panic c) (a.put oi.dst v) w→Q (.panic c) a w) (hw:Region.wanted oi (yielded ops a.tmps) = true) (hy:∀ w,S w∧T w→(execOp a.eval oi).run P w = .ok (.value v) w) (hS:S w∧T w)
 (h:wpAnyX P md ops Q S T z fuel (listed.setIfInBounds i true) (a.put oi.dst v) w):wpAnyX P md ops Q S T z (fuel + 1) listed a w :=
 wpAnyX_firstS hi (Region.noSelect_spec hs) hiz hQ hz fuel listed a w (Region.free_spec hi hf) (by simpa using hr) (.inl ⟨hw,hy⟩) hS hn h
theorem wpAnyX_takeT {z:List Nat} {i:Nat} {oi:Oper} {v:Value} {fuel:Nat} {listed:Array Bool} {a:Act} {w:World} (hi:ops[i]? = some oi)
 (hs:Region.noSelect ops = true) (hf:Region.free md ops listed i = true) (hr:(Region.ready md ops listed).contains i = true)
 (hiz:i ∉ z) (hQ:∀ c a w,Q (.panic c) (a.put oi.dst v) w→Q (.panic c) a w) (hw:Region.wanted oi (yielded ops a.tmps) = true) (hy:∀ w,T w→(execOp a.eval oi).run P w = .ok (.value v) w) (hT:T w) (hS:noneZ z listed = true→S w)
 (h:wpAnyX P md ops Q S T z fuel (listed.setIfInBounds i true) (a.put oi.dst v) w):wpAnyX P md ops Q S T z (fuel + 1) listed a w :=
 wpAnyX_firstT hi (Region.noSelect_spec hs) hiz hQ fuel listed a w (Region.free_spec hi hf) (by simpa using hr) (.inl ⟨hw,hy⟩) hT hS h
theorem wpAnyX_one {z:List Nat} {i:Nat} {o:Oper} {fuel:Nat} {listed:Array Bool} {a:Act} {w:World} (hr:Region.ready md ops listed = [i]) (ho:ops[i]? = some o)
 (h:∀ K':Act→World→Prop,Shut (∀ a w,((noneZ z (listed.setIfInBounds i true) = true→S w)∧T w)→wpAnyX P md ops Q S T z fuel (listed.setIfInBounds i true) a w→K' a w)→if Region.wanted o (yielded ops a.tmps) = true then Oper.wp P o a w K' Q else K' (a.put o.dst undef) w):wpAnyX P md ops Q S T z (fuel + 1) listed a w :=
 ⟨fun h0 => absurd (hr ▸ h0) (by simp),fun j hj => by
  rw [hr] at hj;obtain rfl:j = i:=by simpa using hj
  exact wpOp_step ho (fun K' hK => h K' (fun a w hS hW => hK a w ⟨hS,hW⟩))⟩
theorem wpAnyX_two {z:List Nat} {i j:Nat} {o p:Oper} {fuel:Nat} {listed:Array Bool} {a:Act} {w:World} (hr:Region.ready md ops listed = [i,j]) (ho:ops[i]? = some o) (hp:ops[j]? = some p)
 (h:∀ K':Act→World→Prop,Shut (∀ a w,((noneZ z (listed.setIfInBounds i true) = true→S w)∧T w)→wpAnyX P md ops Q S T z fuel (listed.setIfInBounds i true) a w→K' a w)→if Region.wanted o (yielded ops a.tmps) = true then Oper.wp P o a w K' Q else K' (a.put o.dst undef) w)
 (g:∀ K':Act→World→Prop,Shut (∀ a w,((noneZ z (listed.setIfInBounds j true) = true→S w)∧T w)→wpAnyX P md ops Q S T z fuel (listed.setIfInBounds j true) a w→K' a w)→if Region.wanted p (yielded ops a.tmps) = true then Oper.wp P p a w K' Q else K' (a.put p.dst undef) w):wpAnyX P md ops Q S T z (fuel + 1) listed a w :=
 ⟨fun h0 => absurd (hr ▸ h0) (by simp),fun k hk => by
  rw [hr] at hk;rcases List.mem_cons.1 hk with rfl | hk
  ·exact wpOp_step ho (fun K' hK => h K' (fun a w hS hW => hK a w ⟨hS,hW⟩))
  ·obtain rfl:k = j:=by simpa using hk
   exact wpOp_step hp (fun K' hK => g K' (fun a w hS hW => hK a w ⟨hS,hW⟩))⟩
theorem wpAnyX_done {z:List Nat} {listed:Array Bool} {a:Act} {w:World} (hr:Region.ready md ops listed = []) (h:Q .normal a w) :
 ∀ fuel,wpAnyX P md ops Q S T z fuel listed a w
 | 0 => ⟨hr,h⟩
 | _ + 1 => ⟨fun _ => h,by rw [hr];simp⟩
theorem wp_region_X {id:Nat} (z:List Nat) (S T:World→Prop) {a:Act} {w:World} (hm:P.follows .mixedOrders = true)
 (h:wpAnyX P .any ops (NoPanic Q) S T z ops.size (Array.replicate ops.size false) a w.drew):(Code.region id ops true).wp P Q a w :=
 wp_region_noPanic (wp_region_any hm (wpAny_of_X _ _ _ _ h))
end
end Go.Proofs.YteigofaccjaobaaGreatDoor
namespace Go.Proofs.YteigofaccjaobaaGreatDoor
open Go.RowKit
def secO (i:Nat) (fr:List UInt8):List UInt8:=(if i = 0 then 1 else 0) :: ((fr.drop (63 * i)).take 63 ++ List.replicate (63 - ((fr.drop (63 * i)).take 63).length) 0)
theorem secO_len (i:Nat) (fr:List UInt8):(secO i fr).length = 64:=by
 unfold secO;rw [List.length_cons,List.length_append,List.length_replicate];have:((fr.drop (63 * i)).take 63).length≤63:=by rw [List.length_take];omega
 omega
def putC (at_:Nat) (fr:List UInt8) (k:Nat):List (Nat × List UInt8):=(List.range k).map fun i => (at_ + i,secO i fr)
theorem putC_succ (at_:Nat) (fr:List UInt8) (k:Nat):putC at_ fr (k + 1) = putC at_ fr k ++ [(at_ + k,secO k fr)]:=by unfold putC;rw [List.range_succ,List.map_append];rfl
theorem putC_len (at_:Nat) (fr:List UInt8) (k:Nat):(putC at_ fr k).length = k:=by unfold putC;rw [List.length_map,List.length_range]
def putK (d:DskV) (at_:Nat) (fr:List UInt8) (k:Nat):DskV:={d with C:=d.C ++ putC at_ fr k}
theorem putK_zero (d:DskV) (at_:Nat) (fr:List UInt8):putK d at_ fr 0 = d:=by unfold putK putC;simp
theorem putK_succ (d:DskV) (at_:Nat) (fr:List UInt8) (k:Nat):putK d at_ fr (k + 1) = (putK d at_ fr k).write (at_ + k) (secO k fr):=by unfold putK DskV.write;rw [putC_succ,← List.append_assoc]
def putD (d:DskV) (at_:Nat) (fr:List UInt8):DskV:=putK d at_ fr (costN fr.length)
theorem secO_splice {d:UInt8} {F:List UInt8}:((d :: List.replicate 63 (0:UInt8)).take 1 ++ (F ++ (d :: List.replicate 63 (0:UInt8)).drop (1 + F.length))) = d :: (F ++ List.replicate (63 - F.length) 0):=by
 rw [List.take_succ_cons,List.take_zero,Nat.add_comm,List.drop_succ_cons,List.drop_replicate];rfl
theorem cost_same (w:World) (n:Nat) (h:n≤1000000):Calls Tryz.prog 118 #[.int .i64 n] w fun e w' => e = .returned (.int .i64 (costN n:Int))∧w = w':=(cost_any w n h).mono fun _ _ ⟨h1,h2⟩ => ⟨h1,h2.symm⟩
theorem step_appRc {W w:World} {ops:Array Oper} {o:Oper} {a:Act} {K:Act→World→Prop} {Q:Exit→Act→World→Prop} {E:Prop} (hgd:o.guard = none) (s x:Operand)
 (ho:o.op = .call { callee:=.builtin .append,args:=#[s,x],argTypes:=#[156,156] }) (ra:Option Addr) (rc n:Nat) (R:List RcM) (hs:a.eval s = .slice ra n rc) (hn:R.length = n) (hR:RowAt W w ra rc R)
 (tb:Nat) (y:RcM) (hx:a.eval x = .slice (some ⟨tb,0,none⟩) 1 1) (hT:RecsAt 4 rmC w (some ⟨tb,0,none⟩) [y]) (hy:OwnX W w y.a y.c y.r.d) (hb:n + 1≤1000000) (hW:W.heap.size≤w.heap.size)
 (h:∀ ra' rc' w',RowAt W w' ra' rc' (R ++ [y])→w.grownBy w' (Value.slice ra n rc).ownBlock→(∀ z,ra' = some z→(∃ q,ra = some q∧z.block = q.block) ∨ z.block = w.heap.size)→K (a.put o.dst (.slice ra' (n + 1) rc')) w'):if Region.wanted o (yielded ops a.tmps) = true then Oper.wp Tryz.prog o a w K Q else E:=by
 subst hn;obtain ⟨i5,hi,hz0,hz1,hz2⟩:=info_parts Tryz.infoRc;refine step_append_at (k:=4) (enc:=rmC) hgd s x 156 ho W.heap.size 167 i5 _ 48 Tryz.underlying156 hi hz0 hz1 hz2 rfl (by decide) rmC_len rmC_one (.slice ra R.length rc) R hs hR.o ⟨tb,0,none⟩ 1 1 [y] rfl hx hT (by unfold maxLen;omega) (by omega) hW ?_;intro v2 w2 hown2 hgr2 hat;have hl2:(R ++ [y]).length = R.length + 1:=by simp
 obtain ⟨a2,c2,hv2,-,-,-⟩:=recs_of_owns rmC_len hown2;subst hv2;have hpl:=place_of rfl rfl hat;have hrow:RowAt W w2 a2 c2 (R ++ [y]):=⟨hown2,fun z hz => by
  rcases List.mem_append.1 hz with h1 | h1
  ·exact (hR.d z h1).grown hgr2 ((hR.d z h1).rows hR.o)
  ·rw [List.mem_singleton.1 h1];exact hy.grown hgr2 (hy.rows hR.o)⟩
 rw [hl2] at *;exact h a2 c2 w2 hrow hgr2 hpl
end Go.Proofs.YteigofaccjaobaaGreatDoor
