/- order.Put. desk.PutAsk. Printed by gen_p9.py. -/
import Derived.Test.YteigofaccjaobaaGreatDoorKL2
import Derived.Deep.RegionWith
import Derived.Laws.IdiomStrings
import Derived.Laws.ResultCell
namespace Go.Proofs.YteigofaccjaobaaGreatDoor
open Go.RowKit
def tskN (t:Tsk):List Int:=[t.c,t.p,t.d,t.s]
def headN (e:Ent):List Int:=[e.cl,e.nu,e.kd,e.at_,e.id,e.srv.k,e.srv.q,e.srv.t,e.po,(e.tasks.length:Int)]
def entN (e:Ent):List Int:=headN e ++ e.tasks.flatMap tskN
def listB (l:List Int):List UInt8:=l.flatMap fun n => numB n.toNat
theorem listB_snoc (l:List Int) (n:Int):listB (l ++ [n]) = listB l ++ numB n.toNat:=by simp [listB]
def Nums (l:List Int):Prop:=∀ n ∈ l,0≤n∧n≤1099511627776
theorem listB_len:∀ {l:List Int},Nums l→(listB l).length≤6 * l.length
 | [],_ => by simp [listB]
 | n :: l,h => by
  have h1:=listB_len (l:=l) (fun x hx => h x (List.mem_cons_of_mem _ hx));have h2:=h n (List.mem_cons_self ..);have h3:=numB_6 (n:=n.toNat) (by omega);rw [show listB (n :: l) = numB n.toNat ++ listB l from rfl,List.length_append,List.length_cons];omega
theorem ent_tasks {e:Ent} (h:entF e = true):e.tasks.length≤8∧∀ t ∈ e.tasks,tskF t = true:=by
 unfold entF ordF at h;simp only [Bool.and_eq_true] at h;obtain ⟨-,-,h⟩:=h;split at h
 ·simp only [Bool.and_eq_true,decide_eq_true_iff] at h;rw [h.1.2];exact ⟨by simp,fun t ht => by cases ht⟩
 ·split at h
  ·simp only [Bool.and_eq_true,decide_eq_true_iff] at h;rw [h.1.2];exact ⟨by simp,fun t ht => by cases ht⟩
  ·split at h
   ·simp only [Bool.and_eq_true,decide_eq_true_iff] at h;exact ⟨h.1.2,fun t ht => List.all_eq_true.1 h.2 t ht⟩
   ·cases h
theorem ent_head {e:Ent} (h:entF e = true):Nums (headN e):=by
 have ht:=(ent_tasks h).1;unfold entF ordF at h;simp only [Bool.and_eq_true,decide_eq_true_iff,okN_iff] at h;obtain ⟨⟨h1,h2,h3,h4⟩,⟨⟨h5,h6⟩,h7,h8⟩,h⟩:=h;have hs:(0≤e.srv.k∧e.srv.k≤1099511627776)∧(0≤e.srv.q∧e.srv.q≤1099511627776)∧(0≤e.srv.t∧e.srv.t≤1099511627776)∧(0≤e.po∧e.po≤1099511627776)∧0≤e.kd∧e.kd≤1099511627776:=by
  split at h
  ·simp only [Bool.and_eq_true,decide_eq_true_iff,okN_iff] at h;omega
  ·split at h
   ·simp only [Bool.and_eq_true,decide_eq_true_iff] at h;omega
   ·split at h
    ·simp only [Bool.and_eq_true,decide_eq_true_iff,okN_iff] at h;omega
    ·cases h
 intro n hn;simp only [headN,List.mem_cons,List.not_mem_nil,or_false] at hn;rcases hn with rfl | rfl | rfl | rfl | rfl | rfl | rfl | rfl | rfl | rfl <;> omega
theorem tsk_nums {t:Tsk} (h:tskF t = true):Nums (tskN t):=by
 unfold tskF at h;simp only [Bool.and_eq_true,okN_iff] at h;intro n hn;simp only [tskN,List.mem_cons,List.not_mem_nil,or_false] at hn;rcases hn with rfl | rfl | rfl | rfl <;> omega
theorem tsks_len (l:List Tsk):(l.flatMap tskN).length = l.length * 4:=by
 induction l with
 | nil => rfl
 | cons t l ih =>
  rw [List.flatMap_cons,List.length_append,ih,List.length_cons];have:(tskN t).length = 4:=rfl;omega
theorem idx_run {t:TypeId} {n:Nat} {cs:Array Value} {k:Nat} {v:Int} (w:World) (h:Tryz.prog.underlying t = some (.array n 3)) (hk:k < n) (hv:cs[k]? = some (.int .i64 v)):(Instr.index t (.agg cs) (.int .i64 k)).run Tryz.prog w = .ok (.int .i64 v) w:=by
 have h1:(0:Int)≤(k:Int)∧(k:Int) < (n:Int):=by omega
 simp [Instr.index,run_underlying h,asIntOf,h1,hv,go_sem];omega
theorem newWriter_at (w:World) {n:Nat} (hn:w.heap.size = n):Calls Tryz.prog 69 #[] w fun e w' => e = .returned (.pointer (some ⟨n,0,none⟩))∧WrAt w w' n w'.heap.size []:=by
 subst hn;exact newWriter_any w
set_option maxRecDepth 100000 in
set_option maxHeartbeats 6400000 in
theorem put_yes {G:List Nat} {E:Nat→Addr} (e:Ent) (a:Option Addr) (c:Nat) (w:World) (h:(⟨e,a,c⟩:EntM).ok Any w) (hE:EAt G E w) (i0:4 ∈ G) (hf:entF e = true) :
 Calls Tryz.prog 86 #[.agg #[.int .i64 e.cl,.int .i64 e.nu,.int .i64 e.kd,.int .i64 e.id,.int .i64 e.srv.k,.int .i64 e.srv.q,.int .i64 e.srv.t,.int .i64 e.po,.slice a e.tasks.length c,.int .i64 e.at_]] w fun r w' => ∃ a' c',r = .returned (.tuple #[.slice a' (listB (entN e)).length c',.nilIface])∧Own w w' a' c' (listB (entN e)):=by
 have hck:=fun w' (g:Gr w w') => check_any ⟨e,a,c⟩ w' (h.gr g) (hE.gr g) i0
 dsimp only at hck;rw [hf] at hck;have hck2:∀ w',Gr w w'→Calls Tryz.prog 61 #[.agg #[.int .i64 e.cl,.int .i64 e.nu,.int .i64 e.kd,.int .i64 e.id,.int .i64 e.srv.k,.int .i64 e.srv.q,.int .i64 e.srv.t,.int .i64 e.po,.slice a e.tasks.length c,.int .i64 e.at_]] w' fun e w'' => e = .returned .nilIface∧Gr w' w'':=hck
 have hhd:=ent_head hf;obtain ⟨ht8,htk⟩:=ent_tasks hf;obtain ⟨⟨htr,-⟩,-⟩:=h;dsimp only at htr;replace hck2:=Lib.hid hck2;replace hhd:=Lib.hid hhd;replace htk:=Lib.hid htk;replace hf:=Lib.hid hf;replace htr:=Lib.hid htr;clear hck;go_enter Tryz.func86,Tryz.ntmps86;go_wp2_with fail;refine (hck2.out _ ((Gr.refl w).alloc _)).mono ?_;rintro e wa ⟨rfl,ga⟩;obtain ⟨ca,fa,sa⟩:=ga.cells;try simp only [size_drewN] at ca fa sa
 try simp only [World.size_alloc] at ca fa sa
 try simp only [World.size_drew] at ca fa sa
 try simp only [World.size_setCell] at ca fa sa
 have za0:w.heap.size < wa.heap.size:=by omega
 have ya0:w.heap.size≤wa.heap.size:=by omega
 have ka0:=fun o => ca (w.heap.size) o (by omega)
 have ja0:=fun o => fa (w.heap.size) o (by omega)
 go_wp2_with fail;refine (newWriter_at _ (n:=wa.heap.size + 1) (by simp)).mono ?_;rintro r w3 ⟨rfl,hW⟩;have g3:=hW.world;have hbo:=(Blk.new wa #[.int .i64 e.kd,.int .i64 e.id,.int .i64 e.srv.k,.int .i64 e.srv.q,.int .i64 e.srv.t,.int .i64 e.po,.slice a e.tasks.length c,.int .i64 e.at_] 71).gr g3;have hbe:=(((Blk.new w #[.int .i64 e.cl,.int .i64 e.nu,.int .i64 e.kd,.int .i64 e.id,.int .i64 e.srv.k,.int .i64 e.srv.q,.int .i64 e.srv.t,.int .i64 e.po,.slice a e.tasks.length c,.int .i64 e.at_] 73).gr ga).alloc (.cells #[.int .i64 e.kd,.int .i64 e.id,.int .i64 e.srv.k,.int .i64 e.srv.q,.int .i64 e.srv.t,.int .i64 e.po,.slice a e.tasks.length c,.int .i64 e.at_] 71)).gr g3;have gw3:Gr w w3:=((((Gr.refl w).alloc _).trans ga).alloc _).trans g3;have c0:=hbe.cell (i:=0) (v:=.int .i64 e.cl) rfl;have c1:=hbe.cell (i:=1) (v:=.int .i64 e.nu) rfl;have d0:=hbo.cell (i:=0) (v:=.int .i64 e.kd) rfl;have d1:=hbo.cell (i:=1) (v:=.int .i64 e.id) rfl;have d2:=hbo.cell (i:=2) (v:=.int .i64 e.srv.k) rfl;have d3:=hbo.cell (i:=3) (v:=.int .i64 e.srv.q) rfl;have d4:=hbo.cell (i:=4) (v:=.int .i64 e.srv.t) rfl;have d5:=hbo.cell (i:=5) (v:=.int .i64 e.po) rfl;have d6:=hbo.cell (i:=6) (v:=.slice a e.tasks.length c) rfl;have d7:=hbo.cell (i:=7) (v:=.int .i64 e.at_) rfl;replace hW:=Lib.hid hW;have hbo2:=hbo;replace hbo2:=Lib.hid hbo2;clear hbe hbo;go_wp2_with fail;go_loopw [46] (fun kv wr => ∃ k:Nat,k≤10∧kv = .int .i64 k∧WrAt (wa.alloc (.cells #[.int .i64 e.kd,.int .i64 e.id,.int .i64 e.srv.k,.int .i64 e.srv.q,.int .i64 e.srv.t,.int .i64 e.po,.slice a e.tasks.length c,.int .i64 e.at_] 71)) wr (wa.heap.size + 1) wr.heap.size (listB ((headN e).take k))) (fun kv _ => 10 - (intOf kv).toNat);case atStart => exact ⟨0,by omega,rfl,hW.out.full⟩
 case round =>
  obtain ⟨k,hk,rfl,hWr⟩:=hrel;by_cases hlt:k < 10
  ·have hlt2:(k:Int) < 10:=by omega
   obtain ⟨v,hv⟩:=get_some (headN e) k hlt;obtain ⟨v0,v1⟩:=hhd.out v (List.mem_of_getElem? hv);obtain ⟨m,rfl⟩:∃ m:Nat,v = m:=⟨v.toNat,by omega⟩
   have hcs:(#[.int .i64 e.cl,.int .i64 e.nu,.int .i64 e.kd,.int .i64 e.at_,.int .i64 e.id,.int .i64 e.srv.k,.int .i64 e.srv.q,.int .i64 e.srv.t,.int .i64 e.po,.int .i64 (e.tasks.length:Int)]:Array Value)[k]? = some (.int .i64 (m:Int)):=by
    show ((headN e).map (Value.int .i64)).toArray[k]? = _;simp [hv]
   have hix:=fun w => idx_run w Tryz.underlying223 hlt hcs
   have hlen:=listB_len (l:=(headN e).take k) (fun n hn => hhd.out n (List.mem_of_mem_take hn));have hlen2:((headN e).take k).length≤10:=by rw [List.length_take];omega
   have hnum:=num_any _ wr _ wr.heap.size (listB ((headN e).take k)) m hWr (by omega) (by omega);have hsn:listB ((headN e).take (k + 1)) = listB ((headN e).take k) ++ numB m:=by rw [take_snoc hv,listB_snoc];rfl
   replace hWr:=Lib.hid hWr;replace hnum:=Lib.hid hnum;replace hsn:=Lib.hid hsn;replace hcs:=Lib.hid hcs;clear hv;go_wp2_with fail;refine hnum.out.mono ?_;rintro r w4 ⟨rfl,hK⟩;go_wp2_with fail;go_roundw;case rel => exact ⟨k + 1,by omega,by go_num,by rw [hsn.out];exact hK.at⟩
   case measure => simp [intOf];omega
  ·have hk10:k = 10:=by omega
   have hh:(headN e).take k = headN e:=List.take_of_length_le (by rw [hk10];simp [headN]);have hk10b:decide ((k:Int) < 10) = false:=decide_eq_false (by omega);rw [hh] at hWr;replace hk10:=Lib.hid hk10;replace hh:=Lib.hid hh;have g4:=hWr.world;have hbw:Blk wr wa.heap.size #[.int .i64 e.kd,.int .i64 e.id,.int .i64 e.srv.k,.int .i64 e.srv.q,.int .i64 e.srv.t,.int .i64 e.po,.slice a e.tasks.length c,.int .i64 e.at_] 71:=(Blk.new wa #[.int .i64 e.kd,.int .i64 e.id,.int .i64 e.srv.k,.int .i64 e.srv.q,.int .i64 e.srv.t,.int .i64 e.po,.slice a e.tasks.length c,.int .i64 e.at_] 71).gr g4;have f6:=hbw.cell (i:=6) (v:=.slice a e.tasks.length c) rfl;have z6:=hbw.lt;have hlh:=listB_len hhd.out;replace hWr:=Lib.hid hWr;replace hbw:=Lib.hid hbw;have hhl:(headN e).length = 10:=rfl;obtain ⟨H,hH⟩:∃ H,H = headN e:=⟨_,rfl⟩
   rw [← hH] at hWr hlh hhl;replace hH:=Lib.hid hH;have gw2:Gr w (wa.alloc (.cells #[.int .i64 e.kd,.int .i64 e.id,.int .i64 e.srv.k,.int .i64 e.srv.q,.int .i64 e.srv.t,.int .i64 e.po,.slice a e.tasks.length c,.int .i64 e.at_] 71)):=(((Gr.refl w).alloc _).trans ga).alloc _;go_wp2_with fail;go_loopw [56] (fun jv wr => ∃ j:Nat,j≤e.tasks.length∧jv = .int .i64 j∧WrAt (wa.alloc (.cells #[.int .i64 e.kd,.int .i64 e.id,.int .i64 e.srv.k,.int .i64 e.srv.q,.int .i64 e.srv.t,.int .i64 e.po,.slice a e.tasks.length c,.int .i64 e.at_] 71)) wr (wa.heap.size + 1) wr.heap.size (listB (H ++ (e.tasks.take j).flatMap tskN))) (fun jv _ => e.tasks.length - (intOf jv).toNat);case atStart => exact ⟨0,Nat.zero_le _,rfl,by simpa using hWr.out⟩
   case round =>
    obtain ⟨j,hj,rfl,hWj⟩:=hrel;obtain ⟨wo,rfl⟩:∃ wo:World,wo = wr:=⟨_,rfl⟩
    by_cases hjl:j < e.tasks.length
    ·obtain ⟨t,ht⟩:=get_some e.tasks j hjl;obtain ⟨b,off,rfl,hb,hct⟩:=htr.out j t ht;have gwo:=gw2.trans hWj.world;have e0:wo.cell? ⟨b,off + j * 4,none⟩ = some (.int .i64 t.c):=by rw [gwo.cells.1 _ _ hb];exact hct 0 _ rfl
     have e1:wo.cell? ⟨b,off + j * 4 + 1,none⟩ = some (.int .i64 t.p):=by rw [gwo.cells.1 _ _ hb];exact hct 1 _ rfl
     have e2:wo.cell? ⟨b,off + j * 4 + 2,none⟩ = some (.int .i64 t.d):=by rw [gwo.cells.1 _ _ hb];exact hct 2 _ rfl
     have e3:wo.cell? ⟨b,off + j * 4 + 3,none⟩ = some (.int .i64 t.s):=by rw [gwo.cells.1 _ _ hb];exact hct 3 _ rfl
     have hbo3:b < wo.heap.size:=Nat.lt_of_lt_of_le hb gwo.size;have htn:=tsk_nums (htk.out t (List.mem_of_getElem? ht));have hts:(e.tasks.take (j + 1)).flatMap tskN = (e.tasks.take j).flatMap tskN ++ tskN t:=by rw [take_snoc ht,List.flatMap_append];simp
     have hpre:Nums (H ++ (e.tasks.take j).flatMap tskN):=fun n hn => by
      rcases List.mem_append.1 hn with hn | hn
      ·rw [hH.out] at hn;exact hhd.out n hn
      ·obtain ⟨y,hy,hyn⟩:=List.mem_flatMap.1 hn;exact tsk_nums (htk.out y (List.mem_of_mem_take hy)) n hyn
     have hpl:(H ++ (e.tasks.take j).flatMap tskN).length≤42:=by
      rw [List.length_append,hhl,tsks_len,List.length_take];omega
     obtain ⟨F,hF⟩:∃ F,F = H ++ (e.tasks.take j).flatMap tskN:=⟨_,rfl⟩
     rw [← hF] at hWj hpre hpl;have hF2:H ++ (e.tasks.take (j + 1)).flatMap tskN = F ++ tskN t:=by rw [hts,hF,List.append_assoc]
     have hWa:=hWj.gr ((Gr.refl wo).alloc (.cells #[.int .i64 t.c,.int .i64 t.p,.int .i64 t.d,.int .i64 t.s] 136));have hWa2:=hWa.full;replace hWa:=Lib.hid hWa;replace hWa2:=Lib.hid hWa2;replace hWj:=Lib.hid hWj;replace hts:=Lib.hid hts;replace hF:=Lib.hid hF;replace hF2:=Lib.hid hF2;replace ht:=Lib.hid ht;replace htn:=Lib.hid htn;replace hpre:=Lib.hid hpre;clear hct;go_wp2_with fail;go_loopw [69] (fun kv wr => ∃ k:Nat,k≤4∧kv = .int .i64 k∧WrAt (wa.alloc (.cells #[.int .i64 e.kd,.int .i64 e.id,.int .i64 e.srv.k,.int .i64 e.srv.q,.int .i64 e.srv.t,.int .i64 e.po,.slice (some ⟨b,off,none⟩) e.tasks.length c,.int .i64 e.at_] 71)) wr (wa.heap.size + 1) wr.heap.size (listB (F ++ (tskN t).take k))) (fun kv _ => 4 - (intOf kv).toNat);case atStart => exact ⟨0,by omega,rfl,by simpa using hWa2.out⟩
     case round =>
      obtain ⟨k,hk,rfl,hWr2⟩:=hrel;by_cases hlt:k < 4
      ·have hlt2:(k:Int) < 4:=by omega
       obtain ⟨v,hv⟩:=get_some (tskN t) k hlt;obtain ⟨v0,v1⟩:=htn.out v (List.mem_of_getElem? hv);obtain ⟨m,rfl⟩:∃ m:Nat,v = m:=⟨v.toNat,by omega⟩
       have hcs:(#[.int .i64 t.c,.int .i64 t.p,.int .i64 t.d,.int .i64 t.s]:Array Value)[k]? = some (.int .i64 (m:Int)):=by
        show ((tskN t).map (Value.int .i64)).toArray[k]? = _;simp [hv]
       have hix:=fun w => idx_run w Tryz.underlying224 hlt hcs
       have hlen:=listB_len (l:=F ++ (tskN t).take k) (fun n hn => (List.mem_append.1 hn).elim (hpre.out n) (fun h => htn.out n (List.mem_of_mem_take h)));have hlen2:(F ++ (tskN t).take k).length≤46:=by rw [List.length_append,List.length_take];omega
       have hnum:=num_any _ wr _ wr.heap.size (listB (F ++ (tskN t).take k)) m hWr2 (by omega) (by omega);have hsn:listB (F ++ (tskN t).take (k + 1)) = listB (F ++ (tskN t).take k) ++ numB m:=by rw [take_snoc hv,← List.append_assoc,listB_snoc];rfl
       replace hWr2:=Lib.hid hWr2;replace hnum:=Lib.hid hnum;replace hsn:=Lib.hid hsn;replace hcs:=Lib.hid hcs;clear hv;go_wp2_with fail;refine hnum.out.mono ?_;rintro r w4 ⟨rfl,hK⟩;go_wp2_with fail;go_roundw;case rel => exact ⟨k + 1,by omega,by go_num,by rw [hsn.out];exact hK.at⟩
       case measure => simp [intOf];omega
      ·have hk4:k = 4:=by omega
       have hWe:WrAt (wa.alloc (.cells #[.int .i64 e.kd,.int .i64 e.id,.int .i64 e.srv.k,.int .i64 e.srv.q,.int .i64 e.srv.t,.int .i64 e.po,.slice (some ⟨b,off,none⟩) e.tasks.length c,.int .i64 e.at_] 71)) wr (wa.heap.size + 1) wr.heap.size (listB (H ++ (e.tasks.take (j + 1)).flatMap tskN)):=by
        rw [hF2.out];rw [hk4] at hWr2;exact hWr2
       have hk4b:decide ((k:Int) < 4) = false:=decide_eq_false (by omega);replace hWe:=Lib.hid hWe;replace hWr2:=Lib.hid hWr2;replace hk4:=Lib.hid hk4;go_wp2_with fail;go_roundw;case rel => exact ⟨j + 1,by omega,by go_num,hWe.out⟩
       case measure => simp [intOf];omega
    ·have hall:e.tasks.take j = e.tasks:=List.take_of_length_le (by omega);rw [hall,hH.out] at hWj;have hln:=listB_len (l:=entN e) (fun n hn => by
      rcases List.mem_append.1 hn with hn | hn
      ·exact hhd.out n hn
      ·obtain ⟨y,hy,hyn⟩:=List.mem_flatMap.1 hn;exact tsk_nums (htk.out y hy) n hyn)
     have hnl:(entN e).length≤42:=by
      unfold entN;rw [List.length_append,tsks_len];have:(headN e).length = 10:=rfl;omega
     have hdn:=done_any _ wo _ _ (listB (entN e)) hWj (by omega);have gwo:=gw2.trans hWj.world;replace hdn:=Lib.hid hdn;replace hWj:=Lib.hid hWj;replace hall:=Lib.hid hall;go_wp2_with fail;refine hdn.out.mono ?_;rintro r w5 ⟨a5,c5,rfl,h5⟩;replace h5:=Lib.hid h5;go_wp2_with fail;go_ret2;exact ⟨a5,c5,rfl,h5.out.older gwo⟩
theorem entN_nums {e:Ent} (h:entF e = true):Nums (entN e):=fun n hn => by
 rcases List.mem_append.1 hn with hn | hn
 ·exact ent_head h n hn
 ·obtain ⟨y,hy,hyn⟩:=List.mem_flatMap.1 hn;exact tsk_nums ((ent_tasks h).2 y hy) n hyn
theorem entB_len {e:Ent} (h:entF e = true):(listB (entN e)).length≤252:=by
 have h1:=listB_len (entN_nums h);have h2:(entN e).length≤42:=by
  unfold entN;rw [List.length_append,tsks_len];have:(headN e).length = 10:=rfl;have:=(ent_tasks h).1;omega
 omega
set_option maxHeartbeats 1600000 in
theorem put_no {G:List Nat} {E:Nat→Addr} (e:Ent) (a:Option Addr) (c:Nat) (w:World) (h:(⟨e,a,c⟩:EntM).ok Any w) (hE:EAt G E w) (i0:4 ∈ G) (hf:entF e = false) :
 Calls Tryz.prog 86 #[.agg #[.int .i64 e.cl,.int .i64 e.nu,.int .i64 e.kd,.int .i64 e.id,.int .i64 e.srv.k,.int .i64 e.srv.q,.int .i64 e.srv.t,.int .i64 e.po,.slice a e.tasks.length c,.int .i64 e.at_]] w fun r w' => r = .returned (.tuple #[.slice none 0 0,(Value.iface 297 (.pointer (some (E 4))))])∧Gr w w':=by
 have hck:=fun w' (g:Gr w w') => check_any ⟨e,a,c⟩ w' (h.gr g) (hE.gr g) i0
 dsimp only at hck;rw [hf] at hck;have hck2:∀ w',Gr w w'→Calls Tryz.prog 61 #[.agg #[.int .i64 e.cl,.int .i64 e.nu,.int .i64 e.kd,.int .i64 e.id,.int .i64 e.srv.k,.int .i64 e.srv.q,.int .i64 e.srv.t,.int .i64 e.po,.slice a e.tasks.length c,.int .i64 e.at_]] w' fun e w'' => e = .returned (Value.iface 297 (.pointer (some (E 4))))∧Gr w' w'':=hck
 replace hck2:=Lib.hid hck2;replace hf:=Lib.hid hf;replace h:=Lib.hid h;clear hck;go_enter Tryz.func86,Tryz.ntmps86;go_wp2_with fail;refine (hck2.out _ ((Gr.refl w).alloc _)).mono ?_;rintro e wa ⟨rfl,ga⟩;obtain ⟨ca,fa,sa⟩:=ga.cells;try simp only [size_drewN] at ca fa sa
 try simp only [World.size_alloc] at ca fa sa
 try simp only [World.size_drew] at ca fa sa
 try simp only [World.size_setCell] at ca fa sa
 have za0:w.heap.size < wa.heap.size:=by omega
 have ya0:w.heap.size≤wa.heap.size:=by omega
 have ka0:=fun o => ca (w.heap.size) o (by omega)
 have ja0:=fun o => fa (w.heap.size) o (by omega)
 have g2:=((Gr.refl w).alloc (.cells #[.int .i64 e.cl,.int .i64 e.nu,.int .i64 e.kd,.int .i64 e.id,.int .i64 e.srv.k,.int .i64 e.srv.q,.int .i64 e.srv.t,.int .i64 e.po,.slice a e.tasks.length c,.int .i64 e.at_] 73)).trans ga;replace g2:=Lib.hid g2;go_wp2_with fail;go_ret2;exact ⟨rfl,g2.out⟩
def itemB (e:Ent):List UInt8:=numB (listB (entN e)).length ++ listB (entN e)
def ledB (l:List Ent):List UInt8:=numB l.length ++ l.flatMap itemB
def ledF (l:List Ent):Bool:=decide (l.length≤64) && l.all entF
theorem itemB_len {e:Ent} (h:entF e = true):(itemB e).length≤258:=by
 unfold itemB;rw [List.length_append];have h1:=entB_len h;have h2:=numB_6 (n:=(listB (entN e)).length) (by omega);omega
theorem items_len:∀ {l:List Ent},(∀ e ∈ l,entF e = true)→(l.flatMap itemB).length≤258 * l.length
 | [],_ => by simp
 | e :: l,h => by
  rw [List.flatMap_cons,List.length_append,List.length_cons];have h1:=itemB_len (h e (by simp));have h2:=items_len (l:=l) fun x hx => h x (by simp [hx])
  omega
theorem ledF_iff {l:List Ent}:ledF l = true ↔ l.length≤64∧∀ e ∈ l,entF e = true:=by
 unfold ledF;rw [Bool.and_eq_true,decide_eq_true_iff,List.all_eq_true]
abbrev Ents (L:List EntM):List Ent:=L.map (·.e)
set_option maxRecDepth 100000 in
set_option maxHeartbeats 3200000 in
theorem owrite_any {K:Nat→Prop} {G:List Nat} {E:Nat→Addr} (w:World) (hE:EAt G E w) (i0:4 ∈ G) (a:Option Addr) (c:Nat) (L:List EntM) (h:LedM K w a L) (hl:L.length≤64) :
 Calls Tryz.prog 40 #[.slice a L.length c] w fun r w' => (ledF (Ents L) = true→∃ a' c',r = .returned (.tuple #[.slice a' (ledB (Ents L)).length c',.nilIface])∧Own w w' a' c' (ledB (Ents L)))∧(ledF (Ents L) = false→r = .returned (.tuple #[.slice none 0 0,(Value.iface 297 (.pointer (some (E 4))))])∧Gr w w'):=by
 obtain ⟨n,hn⟩:∃ n,n = L.length:=⟨_,rfl⟩
 rw [← hn] at hl ⊢;have hel:(Ents L).length = n:=by rw [hn,List.length_map]
 have t1:decide ((64:Int) < n) = false:=decide_eq_false (by omega);have t2:¬ (64:Int) < n:=by omega
 obtain ⟨Q,hQ⟩:∃ Q:Ending→World→Prop,Q = fun r w' => (ledF (Ents L) = true→∃ a' c',r = .returned (.tuple #[.slice a' (ledB (Ents L)).length c',.nilIface])∧Own w w' a' c' (ledB (Ents L)))∧(ledF (Ents L) = false→r = .returned (.tuple #[.slice none 0 0,(Value.iface 297 (.pointer (some (E 4))))])∧Gr w w'):=⟨_,rfl⟩
 suffices hs:Calls Tryz.prog 40 #[.slice a n c] w Q by rw [hQ] at hs;exact hs
 have hnw:=newWriter_any w;replace hnw:=Lib.hid hnw;replace hn:=Lib.hid hn;replace hel:=Lib.hid hel;replace hQ:=Lib.hid hQ;replace h:=Lib.hid h;replace hE:=Lib.hid hE;go_enter Tryz.func40,Tryz.ntmps40;go_wp2_with fail;refine hnw.out.mono ?_;rintro q w1 ⟨rfl,hW1⟩;have m1:=num_any w w1 w.heap.size _ ([]:List UInt8) n hW1 (by simp) (by omega);replace hW1:=Lib.hid hW1;replace m1:=Lib.hid m1;go_wp2_with fail;refine m1.out.mono ?_;rintro q w2 ⟨rfl,hK2⟩;have hW2:=hK2.at;clear hK2;rw [List.nil_append] at hW2;obtain ⟨wb,hwb⟩:∃ wb,wb = w.heap.size:=⟨_,rfl⟩
 rw [← hwb] at hW2 ⊢;replace hwb:=Lib.hid hwb;replace hW2:=Lib.hid hW2;go_wp2_with fail;go_loopw [20] (fun iv wr => ∃ k:Nat,k≤n∧iv = .int .i64 k∧Hid (WrAt w wr wb wr.heap.size (numB n ++ ((Ents L).take k).flatMap itemB)∧∀ e ∈ (Ents L).take k,entF e = true)) (fun iv _ => n - (intOf iv).toNat);case atStart => exact ⟨0,Nat.zero_le _,rfl,Lib.hid ⟨by rw [List.take_zero,List.flatMap_nil,List.append_nil];exact hW2.out,fun e he => by rw [List.take_zero] at he;cases he⟩⟩
 case round =>
  obtain ⟨k,hk,rfl,hI⟩:=hrel;obtain ⟨hWr,hfk⟩:=hI.out;clear hI;obtain ⟨wo,rfl⟩:∃ wo:World,wo = wr:=⟨wr,rfl⟩
  have hgo:=hWr.world;have hLk:(numB n ++ ((Ents L).take k).flatMap itemB).length≤20000:=by
   rw [List.length_append];have h1:=numB_6 (n:=n) (by omega);have h2:=items_len hfk;have h3:((Ents L).take k).length≤k:=by rw [List.length_take];omega
   omega
  by_cases hlt:k < n
  ·obtain ⟨x,hx⟩:=get_some L k (by rw [← hn.out];exact hlt);have hLo:=h.out.gr hgo;obtain ⟨eb,eo,rfl,heb,-,k0,k1,k2,k3,k4,k5,k6,k7,k8,k9⟩:=hLo.get hx;have hxe:(Ents L)[k]? = some x.e:=by rw [List.getElem?_map,hx];rfl
   have hxo:x.ok Any wo:=(hLo.2 x (get_mem hx)).mono fun _ _ _ => trivial
   obtain ⟨⟨cl,nu,kd,id_,⟨sk,sq,st⟩,po,ts,at_⟩,ta,tc⟩:=x;dsimp only at k0 k1 k2 k3 k4 k5 k6 k7 k8 k9 hxe;obtain ⟨tl,htl⟩:∃ tl,tl = ts.length:=⟨_,rfl⟩
   rw [← htl] at k8;obtain ⟨w3,hw3⟩:∃ w3,w3 = wo.alloc (.cells #[.int .i64 cl,.int .i64 nu,.int .i64 kd,.int .i64 id_,.int .i64 sk,.int .i64 sq,.int .i64 st,.int .i64 po,.slice ta tl tc,.int .i64 at_] 73):=⟨_,rfl⟩
   have g3:Gr wo w3:=by rw [hw3];exact (Gr.refl _).alloc _
   obtain ⟨ne,hne⟩:∃ ne,ne = wo.heap.size:=⟨_,rfl⟩
   have hB3:Blk w3 ne #[.int .i64 cl,.int .i64 nu,.int .i64 kd,.int .i64 id_,.int .i64 sk,.int .i64 sq,.int .i64 st,.int .i64 po,.slice ta tl tc,.int .i64 at_] 73:=by rw [hw3,hne];exact Blk.new _ _ _
   have hE3:=hE.out.gr (hgo.trans g3);have b0:=hB3.cell (i:=0) (v:=.int .i64 cl) rfl;have b1:=hB3.cell (i:=1) (v:=.int .i64 nu) rfl;have b2:=hB3.cell (i:=2) (v:=.int .i64 kd) rfl;have b3:=hB3.cell (i:=3) (v:=.int .i64 id_) rfl;have b4:=hB3.cell (i:=4) (v:=.int .i64 sk) rfl;have b5:=hB3.cell (i:=5) (v:=.int .i64 sq) rfl;have b6:=hB3.cell (i:=6) (v:=.int .i64 st) rfl;have b7:=hB3.cell (i:=7) (v:=.int .i64 po) rfl;have b8:=hB3.cell (i:=8) (v:=.slice ta tl tc) rfl;have b9:=hB3.cell (i:=9) (v:=.int .i64 at_) rfl;have zb:=hB3.lt;have hkb:decide ((k:Int) < n) = true:=decide_eq_true (by omega);have hk2:(k:Int) < n:=by omega
   cases hf:entF (⟨cl,nu,kd,id_,⟨sk,sq,st⟩,po,ts,at_⟩:Ent) with
   | true =>
    have hp:Calls Tryz.prog 86 #[.agg #[.int .i64 cl,.int .i64 nu,.int .i64 kd,.int .i64 id_,.int .i64 sk,.int .i64 sq,.int .i64 st,.int .i64 po,.slice ta tl tc,.int .i64 at_]] w3 fun r w' => ∃ a' c',r = .returned (.tuple #[.slice a' (listB (entN ⟨cl,nu,kd,id_,⟨sk,sq,st⟩,po,ts,at_⟩)).length c',.nilIface])∧Own w3 w' a' c' (listB (entN ⟨cl,nu,kd,id_,⟨sk,sq,st⟩,po,ts,at_⟩)):=by
     rw [htl];exact put_yes ⟨cl,nu,kd,id_,⟨sk,sq,st⟩,po,ts,at_⟩ ta tc w3 (hxo.gr g3) hE3 i0 hf
    have hbl:=entB_len hf;obtain ⟨P,hP⟩:∃ P,P = listB (entN ⟨cl,nu,kd,id_,⟨sk,sq,st⟩,po,ts,at_⟩):=⟨_,rfl⟩
    rw [← hP] at hp hbl;have hit:itemB ⟨cl,nu,kd,id_,⟨sk,sq,st⟩,po,ts,at_⟩ = numB P.length ++ P:=by unfold itemB;rw [← hP]
    have htk:((Ents L).take (k + 1)).flatMap itemB = ((Ents L).take k).flatMap itemB ++ (numB P.length ++ P):=by rw [take_snoc hxe,List.flatMap_append,List.flatMap_singleton,hit]
    have hfk1:∀ e ∈ (Ents L).take (k + 1),entF e = true:=fun e he => by
     rw [take_snoc hxe] at he;rcases List.mem_append.1 he with h1 | h1
     ·exact hfk e h1
     ·rw [List.mem_singleton.1 h1];exact hf
    obtain ⟨pl,hpl⟩:∃ pl,pl = P.length:=⟨_,rfl⟩
    rw [← hpl] at hp;replace hp:=Lib.hid hp;replace hP:=Lib.hid hP;replace hit:=Lib.hid hit;replace htk:=Lib.hid htk;replace hfk1:=Lib.hid hfk1;replace hfk:=Lib.hid hfk;replace hf:=Lib.hid hf;replace hx:=Lib.hid hx;replace hxe:=Lib.hid hxe;replace hxo:=Lib.hid hxo;replace hLo:=Lib.hid hLo;replace hw3:=Lib.hid hw3;replace hne:=Lib.hid hne;replace hB3:=Lib.hid hB3;replace hWr:=Lib.hid hWr;replace hE3:=Lib.hid hE3;replace htl:=Lib.hid htl;replace hpl:=Lib.hid hpl;go_upto_region 8 with fail
    rw [← hw3.out,← hne.out];go_wp2_with fail;refine hp.out.mono ?_;rintro q w4 ⟨a4,c4,rfl,h4⟩;have g34:=h4.2.2.2.2;have hW4:=hWr.out.gr (g3.trans g34);have hwbs:Calls Tryz.prog 71 #[.pointer (some ⟨wb,0,none⟩),.slice a4 pl c4] w4 fun e w' => e = .returned (.tuple #[])∧WrAt w w' wb w'.heap.size (numB n ++ ((Ents L).take k).flatMap itemB ++ numB P.length ++ P):=by
     rw [hpl.out];exact wbytes_any w w4 wb wo.heap.size _ a4 c4 P hW4 (by omega) h4.2.1 h4.2.2.1 (fun y hy => .inr ⟨by have:=h4.2.2.2.1 y hy;have:=g3.size;omega,h4.lt hy⟩) (by omega)
    replace h4:=Lib.hid h4;replace hW4:=Lib.hid hW4;replace hwbs:=Lib.hid hwbs;go_wp2_with fail;refine hwbs.out.mono ?_;rintro q w5 ⟨rfl,hW5⟩;replace hW5:=Lib.hid hW5;go_wp2_with fail;go_roundw;case rel => exact ⟨k + 1,by omega,by go_num,Lib.hid ⟨by rw [htk.out,← List.append_assoc,← List.append_assoc];exact hW5.out,hfk1.out⟩⟩
    case measure => simp [intOf];omega
   | false =>
    have hp:Calls Tryz.prog 86 #[.agg #[.int .i64 cl,.int .i64 nu,.int .i64 kd,.int .i64 id_,.int .i64 sk,.int .i64 sq,.int .i64 st,.int .i64 po,.slice ta tl tc,.int .i64 at_]] w3 fun r w' => r = .returned (.tuple #[.slice none 0 0,(Value.iface 297 (.pointer (some (E 4))))])∧Gr w3 w':=by
     rw [htl];exact put_no ⟨cl,nu,kd,id_,⟨sk,sq,st⟩,po,ts,at_⟩ ta tc w3 (hxo.gr g3) hE3 i0 hf
    have hno:ledF (Ents L) = false:=by
     cases hq:ledF (Ents L) with
     | false => rfl
     | true => rw [(ledF_iff.1 hq).2 _ (get_mem hxe)] at hf;cases hf
    replace hp:=Lib.hid hp;replace hno:=Lib.hid hno;replace hfk:=Lib.hid hfk;replace hf:=Lib.hid hf;replace hx:=Lib.hid hx;replace hxe:=Lib.hid hxe;replace hxo:=Lib.hid hxo;replace hLo:=Lib.hid hLo;replace hw3:=Lib.hid hw3;replace hne:=Lib.hid hne;replace hB3:=Lib.hid hB3;replace hWr:=Lib.hid hWr;replace hE3:=Lib.hid hE3;replace htl:=Lib.hid htl;go_upto_region 8 with fail
    rw [← hw3.out,← hne.out];go_wp2_with fail;refine hp.out.mono ?_;rintro q w4 ⟨rfl,g34⟩;have g04:Gr w w4:=(hgo.trans g3).trans g34;have hfin:Q (.returned (.tuple #[.slice none 0 0,(Value.iface 297 (.pointer (some (E 4))))])) w4:=by
     rw [hQ.out];exact ⟨fun hh => by (rw [hno.out] at hh;cases hh),fun _ => ⟨rfl,g04⟩⟩
    replace hfin:=Lib.hid hfin;go_wp2_with fail;exact hfin.out
  ·obtain rfl:k = n:=by omega
   have hkb:decide ((k:Int) < k) = false:=decide_eq_false (by omega);have htk:(Ents L).take k = Ents L:=List.take_of_length_le (by rw [hel.out];exact Nat.le_refl _);rw [htk] at hWr hfk hLk;have hdn:=done_any w wo wb wo.heap.size _ hWr (by omega);have hyes:ledF (Ents L) = true:=ledF_iff.2 ⟨by rw [hel.out];exact hl,hfk⟩;have hlb:numB k ++ (Ents L).flatMap itemB = ledB (Ents L):=by unfold ledB;rw [hel.out]
   rw [hlb] at hdn;obtain ⟨B,hB⟩:∃ B,B = ledB (Ents L):=⟨_,rfl⟩
   rw [← hB] at hdn;obtain ⟨bl,hbl⟩:∃ bl,bl = B.length:=⟨_,rfl⟩
   rw [← hbl] at hdn;replace hdn:=Lib.hid hdn;replace hWr:=Lib.hid hWr;replace hfk:=Lib.hid hfk;replace htk:=Lib.hid htk;replace hyes:=Lib.hid hyes;replace hlb:=Lib.hid hlb;replace hB:=Lib.hid hB;replace hbl:=Lib.hid hbl;clear hLk;go_wp2_with fail;refine hdn.out.mono ?_;rintro q w4 ⟨a4,c4,rfl,h4⟩;have hfin:Q (.returned (.tuple #[.slice a4 bl c4,.nilIface])) w4:=by
    rw [hQ.out];refine ⟨fun _ => ⟨a4,c4,by rw [hbl.out,hB.out],?_⟩,fun hh => by (rw [hyes.out] at hh;cases hh)⟩;rw [← hB.out];exact h4.older hgo
   replace hfin:=Lib.hid hfin;go_wp2_with fail;exact hfin.out
theorem BytesAt.mk {w:World} {b off:Nat} {l:List UInt8} (h:∀ i d,l[i]? = some d→b < w.heap.size∧w.cell? ⟨b,off + i,none⟩ = some (.int .u8 (d.toNat:Int))):BytesAt w (some ⟨b,off,none⟩) l:=by
 intro i d hi;refine ⟨b,off,rfl,(h i d hi).1,fun j u hu => ?_⟩;obtain ⟨rfl,rfl⟩:j = 0∧u = .int .u8 (d.toNat:Int):=by
  cases j with
  | zero => simp at hu;exact ⟨rfl,hu.symm⟩
  | succ j => simp at hu
 rw [Nat.mul_one,Nat.add_zero];exact (h i d hi).2
theorem BytesAt.at' {w:World} {b off:Nat} {l:List UInt8} (h:BytesAt w (some ⟨b,off,none⟩) l) {i:Nat} {d:UInt8} (hd:l[i]? = some d):b < w.heap.size∧w.cell? ⟨b,off + i,none⟩ = some (.int .u8 (d.toNat:Int)):=by
 obtain ⟨b',off',hn,hb,hc⟩:=h.get hd;cases hn
 exact ⟨hb,hc⟩
theorem BytesAt.take {w:World} {b off:Nat} {l:List UInt8} (h:BytesAt w (some ⟨b,off,none⟩) l) (k:Nat):BytesAt w (some ⟨b,off,none⟩) (l.take k):=BytesAt.mk fun i d hi => by
 rw [List.getElem?_take] at hi;split at hi
 ·exact h.at' hi
 ·cases hi
theorem BytesAt.drop {w:World} {b off:Nat} {l:List UInt8} (h:BytesAt w (some ⟨b,off,none⟩) l) (k:Nat):BytesAt w (some ⟨b,off + k,none⟩) (l.drop k):=BytesAt.mk fun i d hi => by
 rw [List.getElem?_drop] at hi;rw [Nat.add_assoc];exact h.at' hi
theorem un32_inj {a b c d e f g h:UInt8} (he:un32 [a,b,c,d] = un32 [e,f,g,h]):[a,b,c,d] = [e,f,g,h]:=by
 replace he:a.toNat + 256 * b.toNat + 65536 * c.toNat + 16777216 * d.toNat = e.toNat + 256 * f.toNat + 65536 * g.toNat + 16777216 * h.toNat:=he;have:=a.toNat_lt;have:=b.toNat_lt;have:=c.toNat_lt;have:=d.toNat_lt;have:=e.toNat_lt;have:=f.toNat_lt;have:=g.toNat_lt;have:=h.toNat_lt;have q0:a = e:=UInt8.toNat.inj (by omega);have q1:b = f:=UInt8.toNat.inj (by omega);have q2:c = g:=UInt8.toNat.inj (by omega);have q3:d = h:=UInt8.toNat.inj (by omega);rw [q0,q1,q2,q3]
theorem le32_un32 (a b c d:UInt8):le32 (un32 [a,b,c,d]) = [a,b,c,d]:=by
 refine un32_inj ?_;have:=un32_le32 (un32_lt [a,b,c,d]) []
 rwa [List.append_nil] at this
set_option maxHeartbeats 1600000 in
theorem read_short (w:World) (a:Option Addr) (c n:Nat) (hl:n < 4) :
 Calls Tryz.prog 155 #[.slice a n c] w fun e w' => e = .returned (.tuple #[.slice none 0 0,.int .i64 0,.nilIface])∧Gr w w':=by
 have hl2:(n:Int) < 4:=by omega
 go_enter Tryz.func155,Tryz.ntmps155;go_wp2_with fail;go_ret3;exact ⟨rfl,Gr.refl w⟩
theorem read_head (S:List UInt8) (h:4≤S.length):∃ x0 x1 x2 x3 t,S = x0 :: x1 :: x2 :: x3 :: t:=by
 match S,h with
 | x0 :: x1 :: x2 :: x3 :: t,_ => exact ⟨x0,x1,x2,x3,t,rfl⟩
theorem get_at {w:World} {b off:Nat} {S:List UInt8} (hS:BytesAt w (some ⟨b,off,none⟩) S) {i n c:Nat} {x0 x1 x2 x3:UInt8} {t:List UInt8} (hd:S.drop i = x0 :: x1 :: x2 :: x3 :: t) (hn:4≤n) :
 Calls Tryz.prog 175 #[.slice (some ⟨b,off + i,none⟩) n c] w fun e w' => e = .returned (.int .u32 (un32 [x0,x1,x2,x3]))∧Gr w w':=by
 have hh:=hS.drop i;rw [hd] at hh;exact get_any w b (off + i) n c x0 x1 x2 x3 hn (hh.at' (i:=0) rfl).2 (hh.at' (i:=1) rfl).2 (hh.at' (i:=2) rfl).2 (hh.at' (i:=3) rfl).2
set_option maxHeartbeats 1600000 in
theorem read_large {G:List Nat} {E:Nat→Addr} (w:World) (b off c:Nat) (S:List UInt8) (hS:BytesAt w (some ⟨b,off,none⟩) S) (hE:EAt G E w) (i1:5 ∈ G) (x0 x1 x2 x3:UInt8) (t:List UInt8) (hs:S = x0 :: x1 :: x2 :: x3 :: t) (hn:32768 < un32 [x0,x1,x2,x3]) :
 Calls Tryz.prog 155 #[.slice (some ⟨b,off,none⟩) S.length c] w fun e w' => e = .returned (.tuple #[.slice none 0 0,.int .i64 0,(Value.iface 297 (.pointer (some (E 5))))])∧Gr w w':=by
 have h4:4≤S.length:=by rw [hs];simp
 have hg:Calls Tryz.prog 175 #[.slice (some ⟨b,off,none⟩) S.length c] w fun e w' => e = .returned (.int .u32 (un32 [x0,x1,x2,x3]))∧Gr w w':=get_at (i:=0) hS hs h4
 generalize un32 [x0,x1,x2,x3] = n at *;have hl2:decide ((S.length:Int) < 4) = false:=decide_eq_false (by omega);have hn2:decide ((32768:Int) < n) = true:=decide_eq_true (by omega);replace hs:=Lib.hid hs;replace hg:=Lib.hid hg;go_enter Tryz.func155,Tryz.ntmps155;go_wp2_with fail;refine (hg.out).mono ?_;rintro e wa ⟨rfl,ga⟩;obtain ⟨ca,fa,sa⟩:=ga.cells;try simp only [size_drewN] at ca fa sa
 try simp only [World.size_alloc] at ca fa sa
 try simp only [World.size_drew] at ca fa sa
 try simp only [World.size_setCell] at ca fa sa
 have he:=(hE.gr ga).c0 i1;clear ca fa;go_upto_region 5 with fail
 go_region;go_wp2_with fail;go_ret3;exact ⟨rfl,(by repeat (first | exact Gr.refl _ | apply Gr.alloc | apply Gr.drew | apply Gr.drewN | (refine Gr.setCell ?_ (by first | (simp;done) | (simp;omega)) _) | (refine Gr.trans ?_ (by assumption))))⟩
set_option maxHeartbeats 1600000 in
theorem read_part (w:World) (b off c:Nat) (S:List UInt8) (hS:BytesAt w (some ⟨b,off,none⟩) S) (x0 x1 x2 x3:UInt8) (t:List UInt8) (hs:S = x0 :: x1 :: x2 :: x3 :: t) (hn:un32 [x0,x1,x2,x3]≤32768) (hl:S.length < un32 [x0,x1,x2,x3] + 8) :
 Calls Tryz.prog 155 #[.slice (some ⟨b,off,none⟩) S.length c] w fun e w' => e = .returned (.tuple #[.slice none 0 0,.int .i64 0,.nilIface])∧Gr w w':=by
 have h4:4≤S.length:=by rw [hs];simp
 have hg:Calls Tryz.prog 175 #[.slice (some ⟨b,off,none⟩) S.length c] w fun e w' => e = .returned (.int .u32 (un32 [x0,x1,x2,x3]))∧Gr w w':=get_at (i:=0) hS hs h4
 generalize un32 [x0,x1,x2,x3] = n at *;have hl2:decide ((S.length:Int) < 4) = false:=decide_eq_false (by omega);have hn2:decide ((32768:Int) < n) = false:=decide_eq_false (by omega);have hn4:(S.length:Int) - (4 + n) < 4:=by omega
 replace hs:=Lib.hid hs;replace hg:=Lib.hid hg;go_enter Tryz.func155,Tryz.ntmps155;go_wp2_with fail;refine (hg.out).mono ?_;rintro e wa ⟨rfl,ga⟩;obtain ⟨ca,fa,sa⟩:=ga.cells;try simp only [size_drewN] at ca fa sa
 try simp only [World.size_alloc] at ca fa sa
 try simp only [World.size_drew] at ca fa sa
 try simp only [World.size_setCell] at ca fa sa
 go_wp2_with fail;go_ret3;exact ⟨rfl,ga⟩
set_option maxRecDepth 100000 in
set_option maxHeartbeats 1600000 in
theorem read_sum {G:List Nat} {E:Nat→Addr} (w:World) (b off c:Nat) (S:List UInt8) (hS:BytesAt w (some ⟨b,off,none⟩) S) (hE:EAt G E w) (i1:9 ∈ G) (x0 x1 x2 x3 y0 y1 y2 y3:UInt8) (t r:List UInt8) (hs:S = x0 :: x1 :: x2 :: x3 :: t) (n:Nat) (hx:un32 [x0,x1,x2,x3] = n) (hn:n≤32768) (hl:n + 8≤S.length) (hc:S.length≤c) (hm:S.length≤maxLen) (hy:S.drop (4 + n) = y0 :: y1 :: y2 :: y3 :: r) (hq:crc (S.take (4 + n)) ≠ un32 [y0,y1,y2,y3]) :
 Calls Tryz.prog 155 #[.slice (some ⟨b,off,none⟩) S.length c] w fun e w' => e = .returned (.tuple #[.slice none 0 0,.int .i64 0,(Value.iface 297 (.pointer (some (E 9))))])∧Gr w w':=by
 have h4:4≤S.length:=by omega
 have hg:Calls Tryz.prog 175 #[.slice (some ⟨b,off,none⟩) S.length c] w fun e w' => e = .returned (.int .u32 n)∧Gr w w':=by rw [← hx];exact get_at (i:=0) hS hs h4
 have hlt:(S.take (4 + n)).length = 4 + n:=by rw [List.length_take];omega
 have hsu:=fun w1 (g:Gr w w1) => csum_any (some ⟨b,off,none⟩) c (S.take (4 + n)) w1 ((hS.take _).gr g) (by omega)
 rw [hlt] at hsu;have hg2:=fun w1 (g:Gr w w1) => get_at (c:=c - (4 + n)) (n:=S.length - (4 + n)) (hS.gr g) hy (by omega)
 generalize un32 [y0,y1,y2,y3] = u at *;generalize crc (S.take (4 + n)) = m at *;have hl2:decide ((S.length:Int) < 4) = false:=decide_eq_false (by omega);have hn2:decide ((32768:Int) < n) = false:=decide_eq_false (by omega);have hn4:decide ((S.length:Int) - (4 + n) < 4) = false:=decide_eq_false (by omega);have hmm:=hm;unfold maxLen at hmm;have hs0:(0:Int)≤4 + (n:Int):=by omega
 have hs1:(4:Int) + (n:Int)≤(c:Int):=by omega
 have hs2:(4:Int) + (n:Int)≤(S.length:Int):=by omega
 have hst:((4:Int) + (n:Int)).toNat = 4 + n:=by omega
 have hmu:((m:Int) == u) = false:=beq_eq_false_iff_ne.2 (by omega);have hmv:((m:Int) != u) = true:=by rw [bne,hmu];rfl
 replace hs:=Lib.hid hs;replace hy:=Lib.hid hy;replace hg:=Lib.hid hg;replace hlt:=Lib.hid hlt;replace hsu:=Lib.hid hsu;replace hg2:=Lib.hid hg2;replace hx:=Lib.hid hx;go_enter Tryz.func155,Tryz.ntmps155;go_wp2_with fail;refine (hg.out).mono ?_;rintro e wa ⟨rfl,ga⟩;obtain ⟨ca,fa,sa⟩:=ga.cells;try simp only [size_drewN] at ca fa sa
 try simp only [World.size_alloc] at ca fa sa
 try simp only [World.size_drew] at ca fa sa
 try simp only [World.size_setCell] at ca fa sa
 clear ca fa;go_wp2_with fail;go_upto_region 9 with fail
 refine wp_region_grows (by kernel_rfl) (by kernel_rfl) ?_;repeat (any_goals (first | go_big_quiet_step (first | (exact Calls.grows_same (hsu.out _ (ga.trans (by exact GrW.gr _)))) | (exact Calls.grows (hg2.out _ (ga.trans (by exact GrW.gr _)))) | fail) | quiet_step (first | (exact Calls.grows_same (hsu.out _ (ga.trans (by exact GrW.gr _)))) | (exact Calls.grows (hg2.out _ (ga.trans (by exact GrW.gr _)))) | fail)))
 refine wpQuiet_nil ?_;intro wz hwq;have gz:=GrW.of hwq;clear hwq;obtain ⟨cz,fz,sz⟩:=gz.cells;try simp only [size_drewN] at cz fz sz
 try simp only [World.size_alloc] at cz fz sz
 try simp only [World.size_drew] at cz fz sz
 try simp only [World.size_setCell] at cz fz sz
 have he:=(hE.gr (ga.trans gz)).c0 i1;clear cz fz;go_upto_region 10 with fail
 go_region;go_wp2_with fail;go_ret3;exact ⟨rfl,(by repeat (first | exact Gr.refl _ | apply Gr.alloc | apply Gr.drew | apply Gr.drewN | (refine Gr.setCell ?_ (by first | (simp;done) | (simp;omega)) _) | (refine Gr.trans ?_ (by assumption))))⟩
set_option maxRecDepth 100000 in
set_option maxHeartbeats 1600000 in
theorem read_good (w:World) (b off c:Nat) (S:List UInt8) (hS:BytesAt w (some ⟨b,off,none⟩) S) (x0 x1 x2 x3 y0 y1 y2 y3:UInt8) (t r:List UInt8) (hs:S = x0 :: x1 :: x2 :: x3 :: t) (n:Nat) (hx:un32 [x0,x1,x2,x3] = n) (hn:n≤32768) (hl:n + 8≤S.length) (hc:S.length≤c) (hm:S.length≤maxLen) (hy:S.drop (4 + n) = y0 :: y1 :: y2 :: y3 :: r) (hq:crc (S.take (4 + n)) = un32 [y0,y1,y2,y3]) :
 Calls Tryz.prog 155 #[.slice (some ⟨b,off,none⟩) S.length c] w fun e w' => ∃ a' c',e = .returned (.tuple #[.slice a' n c',.int .i64 ((n:Int) + 8),.nilIface])∧Own w w' a' c' ((S.drop 4).take n):=by
 have h4:4≤S.length:=by omega
 have hg:Calls Tryz.prog 175 #[.slice (some ⟨b,off,none⟩) S.length c] w fun e w' => e = .returned (.int .u32 n)∧Gr w w':=by rw [← hx];exact get_at (i:=0) hS hs h4
 have hlt:(S.take (4 + n)).length = 4 + n:=by rw [List.length_take];omega
 have hsu:=fun w1 (g:Gr w w1) => csum_any (some ⟨b,off,none⟩) c (S.take (4 + n)) w1 ((hS.take _).gr g) (by omega)
 rw [hlt] at hsu;have hg2:=fun w1 (g:Gr w w1) => get_at (c:=c - (4 + n)) (n:=S.length - (4 + n)) (hS.gr g) hy (by omega)
 have hpl:((S.drop 4).take n).length = n:=by rw [List.length_take,List.length_drop];omega
 have hcl:=fun w1 (g:Gr w w1) => cloneB_any w1 (some ⟨b,off + 4,none⟩) (c - 4) ((S.drop 4).take n) (((hS.drop 4).take n).gr g) (fun h => by cases h) (by omega)
 rw [hpl] at hcl;rw [← hq] at hg2;generalize crc (S.take (4 + n)) = m at *;have hl2:decide ((S.length:Int) < 4) = false:=decide_eq_false (by omega);have hn2:decide ((32768:Int) < n) = false:=decide_eq_false (by omega);have hn4:decide ((S.length:Int) - (4 + n) < 4) = false:=decide_eq_false (by omega);have hmm:=hm;unfold maxLen at hmm;have hs0:(0:Int)≤4 + (n:Int):=by omega
 have hs1:(4:Int) + (n:Int)≤(c:Int):=by omega
 have hs2:(4:Int) + (n:Int)≤(S.length:Int):=by omega
 have hst:((4:Int) + (n:Int)).toNat = 4 + n:=by omega
 replace hs:=Lib.hid hs;replace hy:=Lib.hid hy;replace hg:=Lib.hid hg;replace hlt:=Lib.hid hlt;replace hpl:=Lib.hid hpl;replace hsu:=Lib.hid hsu;replace hg2:=Lib.hid hg2;replace hcl:=Lib.hid hcl;replace hx:=Lib.hid hx;clear hq;go_enter Tryz.func155,Tryz.ntmps155;go_wp2_with fail;refine (hg.out).mono ?_;rintro e wa ⟨rfl,ga⟩;obtain ⟨ca,fa,sa⟩:=ga.cells;try simp only [size_drewN] at ca fa sa
 try simp only [World.size_alloc] at ca fa sa
 try simp only [World.size_drew] at ca fa sa
 try simp only [World.size_setCell] at ca fa sa
 clear ca fa;go_wp2_with fail;go_upto_region 9 with fail
 refine wp_region_grows (by kernel_rfl) (by kernel_rfl) ?_;repeat (any_goals (first | go_big_quiet_step (first | (exact Calls.grows_same (hsu.out _ (ga.trans (by exact GrW.gr _)))) | (exact Calls.grows (hg2.out _ (ga.trans (by exact GrW.gr _)))) | fail) | quiet_step (first | (exact Calls.grows_same (hsu.out _ (ga.trans (by exact GrW.gr _)))) | (exact Calls.grows (hg2.out _ (ga.trans (by exact GrW.gr _)))) | fail)))
 refine wpQuiet_nil ?_;intro wz hwq;have gz:=GrW.of hwq;clear hwq;obtain ⟨cz,fz,sz⟩:=gz.cells;try simp only [size_drewN] at cz fz sz
 try simp only [World.size_alloc] at cz fz sz
 try simp only [World.size_drew] at cz fz sz
 try simp only [World.size_setCell] at cz fz sz
 clear cz fz;go_wp2_with fail;have gz2:=ga.trans gz;refine (hcl.out _ gz2).mono ?_;rintro e w1 ⟨a1,c1,rfl,h1⟩;replace h1:=Lib.hid h1;go_wp2_with fail;go_ret3;exact ⟨a1,c1,by congr 3;simp;omega,h1.out.older gz2⟩
theorem res_cell {fn:Func} {p u:Tmp} {ty:TypeId} (h:fn.results = #[.cell p ty,.tmp u]) (tmps:Array Value) (w:World) {b:Nat} {cs:Array Value} {t:TypeId} {fs:Array Field} (hb:Blk w b cs t)
 (hp:tmps.getD p undef = .pointer (some ⟨b,0,none⟩)) (hu:Tryz.prog.underlying ty = some (.struct fs)) (hi:(Tryz.prog.info? ty).map (·.size) = some cs.size) :
 (results fn tmps).run Tryz.prog w = .ok (.tuple #[.agg cs,tmps.getD u undef]) w:=by
 have hl:=run_loadVar_row (P:=Tryz.prog) w b t ty cs (0,0) _ hb hu rfl hi;rw [results_cell_tmp h,hp];simp [asAddr,Result.andThen,hl]
end Go.Proofs.YteigofaccjaobaaGreatDoor
