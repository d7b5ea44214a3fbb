/- disk.Lose; Read, Write, Flush that are refused. -/
import Derived.Test.YteigofaccjaobaaGreatDoorKL6
namespace Go.Proofs.YteigofaccjaobaaGreatDoor
open Go.RowKit
open Go.ChangeMaps Go.MapKept
theorem lose_sec {w:World} {mb n:Nat} {D:DataW Unit} (h:SafeW w mb n D) (ty:TypeId):∃ w',(Builtin.clear_ #[86] ty #[.map (some mb)]).run Tryz.prog w = .ok (.tuple #[]) w'∧SafeW w' mb 0 (.map [])∧GrX [mb] w w':=by
 obtain ⟨es,clock,hb,-⟩:=h;have hlt:mb < w.heap.size:=(Array.getElem?_eq_some_iff.1 hb).1;refine ⟨{ w with heap:=w.heap.setIfInBounds mb (.map #[] clock) },?_,⟨#[],clock,by simp [hlt],⟨by simp,stamped_empty clock,by simp⟩,Nat.le_refl _,rfl⟩,?_⟩
 ·simp [Builtin.clear_,run_underlying Tryz.underlying86,MapKept.run_getObj_map hb,MapKept.run_setObj_map _ hb,Result.andThen]
 ·refine ⟨rfl,rfl,rfl,by simp,fun k hk hm => ?_⟩;have hne:mb ≠ k:=fun e => hm (by rw [e];simp)
  simp [hne]
theorem dlose_any (w:World) {db:Nat} {M:DskM} (h:DskAt w db M) :
 Calls Tryz.prog 17 #[.pointer (some ⟨db,0,none⟩)] w fun e w' => ∃ M',e = .returned (.tuple #[])∧DskP db M.d.lose M M' w w'∧M'.m = 0:=by
 obtain ⟨d,mb,m,D,ca,cc,wn⟩:=M;have z:=h.b.lt;have f2:=h.b.free 2;have f4:=h.b.free 4;have c1:=h.b.cell (i:=1) (v:=.map (some mb)) rfl;have c2:=h.b.cell (i:=2) (v:=.slice ca d.C.length cc) rfl;have c4:=h.b.cell (i:=4) (v:=.bool d.lost) rfl;have hdm:mb ≠ db:=h.dm.symm;obtain ⟨wz,hwz⟩:∃ wz,wz = (w.setCell ⟨db,4,none⟩ (.bool true)).setCell ⟨db,2,none⟩ (.slice none 0 0):=⟨_,rfl⟩
 have hS:SafeW wz mb m D:=by rw [hwz];exact (h.s.setCell (a:=⟨db,4,none⟩) hdm _).setCell (a:=⟨db,2,none⟩) hdm _
 have hB:Blk wz db #[.int .i64 d.n,.map (some mb),.slice none 0 0,.int .i64 wn,.bool true] 89:=by rw [hwz];exact (h.b.set 4 (.bool true)).set 2 (.slice none 0 0)
 have hg:GrX (DskM.own ⟨d,mb,m,D,ca,cc,wn⟩ db) w wz:=by rw [hwz];exact ((GrX.refl _ _).set (p:=⟨db,4,none⟩) (.inl (by simp [DskM.own])) _).set (p:=⟨db,2,none⟩) (.inl (by simp [DskM.own])) _
 have cz1:=hB.cell (i:=1) (v:=.map (some mb)) rfl;have zz:=hB.lt;have hok:=h.ok;obtain ⟨w',hrun,hS',hg'⟩:=lose_sec hS 0;replace h:=Lib.hid h;replace hS:=Lib.hid hS;replace hB:=Lib.hid hB;replace hg:=Lib.hid hg;replace hS':=Lib.hid hS';replace hg':=Lib.hid hg';replace hwz:=Lib.hid hwz;go_enter Tryz.func17,Tryz.ntmps17;go_upto_region 2 with fail
 rw [← hwz.out];go_wp2_with fail;go_end0;refine ⟨rfl,⟨d.lose,mb,0,.map [],none,0,wn⟩,⟨rfl,⟨hB.out.grx hg'.out (by simp;exact hdm.symm),hS'.out,(fun e => by cases e),World.ownsRow_nil _ _ _ _,hok.lose⟩,?_,fun b hb => ?_⟩,rfl⟩
 ·exact hg.out.trans (hg'.out.mono (fun y hy => by simp at hy;subst hy;simp [DskM.own]))
 ·left;simp [DskM.own] at hb ⊢;rcases hb with rfl | rfl <;> simp
theorem dflush_no {G:List Nat} {E:Nat→Addr} (w:World) (hE:EAt G E w) (i0:0 ∈ G) {db:Nat} {M:DskM} (h:DskAt w db M) (hl:M.d.lost = true) :
 Calls Tryz.prog 80 #[.pointer (some ⟨db,0,none⟩)] w fun e w' => e = .returned (Value.iface 297 (.pointer (some (E 0))))∧w' = w:=by
 have c4:=h.b.cell (i:=4) (v:=.bool M.d.lost) rfl;rw [hl] at c4;have z:=h.b.lt;have e0:=hE.c0 i0;replace h:=Lib.hid h;replace hl:=Lib.hid hl;go_enter Tryz.func80,Tryz.ntmps80;go_wp2_with fail;go_ret;exact ⟨rfl,rfl⟩
theorem dread_no {G:List Nat} {E:Nat→Addr} (w:World) (hE:EAt G E w) (i0:0 ∈ G) (i1:1 ∈ G) {db:Nat} {M:DskM} (h:DskAt w db M) (i:Int) (g:Nat) (hg:M.d.chk i = some g) :
 Calls Tryz.prog 152 #[.pointer (some ⟨db,0,none⟩),.int .i64 i] w fun e w' => e = .returned (.tuple #[.slice none 0 0,errW E (some g)])∧w' = w:=by
 have hck:=dcheck_any w hE i0 i1 h i;rw [hg] at hck;replace hck:=Lib.hid hck;replace h:=Lib.hid h;go_enter Tryz.func152,Tryz.ntmps152;go_wp2_with fail;refine hck.out.mono ?_;rintro e w2 ⟨rfl,rfl⟩;unfold errW;go_wp2_with fail;go_ret2;exact ⟨rfl,rfl⟩
set_option maxRecDepth 100000 in
set_option maxHeartbeats 3200000 in
theorem dcrash_nil (w:World) {db:Nat} {M:DskM} (h:DskAt w db M) (hC:M.d.C = []) (kn:Nat) (torn:Int) :
 Calls Tryz.prog 27 #[.pointer (some ⟨db,0,none⟩),.int .u64 kn,.int .i64 torn] w fun e w' => ∃ M',e = .returned (.tuple #[])∧DskP db (M.d.crash kn torn) M M' w w'∧M'.m = M.m:=by
 obtain ⟨d,mb,m,D,ca,cc,wn⟩:=M;dsimp only at hC ⊢;have c2:=h.b.cell (i:=2) (v:=.slice ca d.C.length cc) rfl;have z:=h.b.lt;have f2:=h.b.free 2;have hdm:mb ≠ db:=h.dm.symm;have hl0:(d.C.length:Int) = 0:=by rw [hC];rfl
 have hkb:decide (0 < d.C.length) = false:=decide_eq_false (by omega);have hkc:(0 < d.C.length) = False:=eq_false (by omega);obtain ⟨wz,hwz⟩:∃ wz,wz = w.setCell ⟨db,2,none⟩ (.slice none 0 0):=⟨_,rfl⟩
 replace hwz:=Lib.hid hwz;replace h:=Lib.hid h;replace hC:=Lib.hid hC;replace hl0:=Lib.hid hl0;go_enter Tryz.func27,Tryz.ntmps27;go_wp2_with fail;go_loopw [13] (fun iv wr => iv = .int .i64 0∧wr = w) (fun iv _ => 0);case atStart => exact ⟨rfl,rfl⟩
 case round =>
  obtain ⟨rfl,rfl⟩:=hrel;go_wp2_with fail;rw [← hwz.out];go_end0;have hcr:(d.crash kn torn) = {d with C:=[]}:=by unfold DskV.crash;rw [hC.out];rfl
  refine ⟨⟨d.crash kn torn,mb,m,D,none,0,wn⟩,rfl,⟨rfl,⟨?_,?_,fun hl => ?_,World.ownsRow_nil _ _ _ _,h.out.ok.crash kn torn⟩,?_,fun b hb => ?_⟩,rfl⟩
  ·rw [hwz.out];exact h.out.b.set 2 (.slice none 0 0)
  ·rw [hwz.out];exact h.out.s.setCell (a:=⟨db,2,none⟩) hdm _
  ·rw [hcr] at hl ⊢;exact h.out.f hl
  ·rw [hwz.out];exact (GrX.refl _ _).set (p:=⟨db,2,none⟩) (.inl (by simp [DskM.own])) _
  ·left;simp [DskM.own] at hb ⊢;rcases hb with rfl | rfl <;> simp
end Go.Proofs.YteigofaccjaobaaGreatDoor
namespace Go.Proofs.YteigofaccjaobaaGreatDoor
open Go.RowKit
def frF (S:List UInt8):Option (List UInt8) :=
 if S.length < 4 then none else if 32768 < un32 S then none else if S.length < un32 S + 8 then none
 else if crc (S.take (4 + un32 S)) = un32 (S.drop (4 + un32 S)) then some ((S.drop 4).take (un32 S)) else none
theorem le32_read {S:List UInt8} (h:4≤S.length):le32 (un32 S) = S.take 4:=by
 obtain ⟨a,b,c,d,t,rfl⟩:=read_head S h;exact le32_un32 a b c d
theorem frF_some {S p:List UInt8} (h:frF S = some p):S = frameB p ++ S.drop (p.length + 8)∧p.length≤32768:=by
 unfold frF at h;by_cases h1:S.length < 4
 ·rw [if_pos h1] at h;cases h
 rw [if_neg h1] at h;by_cases h2:32768 < un32 S
 ·rw [if_pos h2] at h;cases h
 rw [if_neg h2] at h;by_cases h3:S.length < un32 S + 8
 ·rw [if_pos h3] at h;cases h
 rw [if_neg h3] at h;by_cases h4:crc (S.take (4 + un32 S)) = un32 (S.drop (4 + un32 S))
 ·rw [if_pos h4] at h;obtain ⟨n,hn⟩:∃ n,n = un32 S:=⟨_,rfl⟩
  have hl4:=le32_read (S:=S) (by omega);rw [← hn] at h h2 h3 h4 hl4;have hp:(S.drop 4).take n = p:=Option.some.inj h;have hpl:p.length = n:=by rw [← hp,List.length_take,List.length_drop];omega
  have ha:le32 p.length ++ p = S.take (4 + n):=by
   rw [hpl,hl4,← hp,List.take_add]
  refine ⟨?_,by omega⟩;unfold frameB;rw [ha,h4,le32_read (by rw [List.length_drop];omega),hpl,show n + 8 = (4 + n) + 4 by omega,← List.drop_drop,← List.drop_drop,List.append_assoc];rw [List.drop_drop,← List.append_assoc,List.append_assoc];rw [List.take_append_drop 4 (S.drop (4 + n)),List.take_append_drop]
 ·rw [if_neg h4] at h;cases h
structure Rc where
 g:Nat
 e:Nat
 i:Nat
 d:List UInt8
def recB (r:Rc):List UInt8:=[r.g,r.e,r.i].flatMap numB ++ (numB r.d.length ++ r.d)
def frR (r:Rc):List UInt8:=frameB (recB r)
def costN (n:Nat):Nat:=(n + 62) / 63
def costR (r:Rc):Nat:=costN (frR r).length
structure Rc.ok (r:Rc):Prop where
 g:r.g≤1099511627776
 e:r.e≤1099511627776
 i:r.i≤1099511627776
 d:r.d.length≤32768
def recP (p:List UInt8):Option Rc:=match numsR 3 p with
 | some ([g,e,i],k) => match numR (p.drop k) with
  | some (n,j) => if n≤32768∧k + j + n = p.length then some ⟨g,e,i,p.drop (k + j)⟩ else none
  | none => none
 | _ => none
theorem recP_some {p:List UInt8} {r:Rc} (h:recP p = some r):p = recB r∧r.ok:=by
 unfold recP at h;split at h
 ·rename_i g e i k h1;split at h
  ·rename_i n j h2;split at h
   ·rename_i h3;obtain ⟨h4,h5⟩:=h3;injection h with h;subst h
    obtain ⟨-,hle,hp,hk⟩:=numsR_get _ _ _ _ h1;obtain ⟨hq,hj,-⟩:=numR_get h2;have hdl:(p.drop (k + j)).length = n:=by rw [List.length_drop];omega
    refine ⟨?_,⟨hle _ (by simp),hle _ (by simp),hle _ (by simp),by dsimp only;omega⟩⟩;unfold recB;dsimp only;rw [hdl];rw [List.drop_drop] at hq;rw [← hq];exact hp
   ·cases h
  ·cases h
 ·cases h
def parF (S:List UInt8):Option Rc:=match frF S with
 | none => none
 | some p => recP p
theorem parF_some {S:List UInt8} {r:Rc} (h:parF S = some r):r.ok∧S = frR r ++ S.drop (frR r).length∧(recB r).length≤32768:=by
 unfold parF at h;split at h
 ·cases h
 ·rename_i p h1;obtain ⟨hS,hp⟩:=frF_some h1;obtain ⟨rfl,hr⟩:=recP_some h;refine ⟨hr,?_,hp⟩;unfold frR;rw [frameB_len];exact hS
def strmF (s:List UInt8) (t:List (List UInt8)):List UInt8:=s.drop 1 ++ (t.takeWhile (fun x => x.head? == some 0)).flatMap (·.drop 1)
def standF:List (List UInt8)→Option Rc
 | [] => none
 | s :: t => if s.head? = some 1 then parF (strmF s t) else none
theorem costN_pos {n:Nat} (h:0 < n):1≤costN n:=by unfold costN;omega
theorem costN_le {n m:Nat} (h:n≤63 * m):costN n≤m:=by unfold costN;omega
theorem costR_pos (r:Rc):1≤costR r:=costN_pos (by unfold frR;rw [frameB_len];omega)
theorem strm_len {s:List UInt8} {t:List (List UInt8)} (hs:s.length = 64) (ht:∀ x ∈ t,x.length = 64):(strmF s t).length = 63 * (1 + (t.takeWhile (fun x => x.head? == some 0)).length):=by
 have h:∀ u:List (List UInt8),(∀ x ∈ u,x.length = 64)→(u.flatMap (·.drop 1)).length = 63 * u.length:=by
  intro u;induction u with
  | nil => intro _;rfl
  | cons a u ih =>
   intro hu;rw [List.flatMap_cons,List.length_append,ih fun x hx => hu x (List.mem_cons_of_mem _ hx),List.length_drop,hu a List.mem_cons_self,List.length_cons];omega
 unfold strmF;rw [List.length_append,h _ fun x hx => ht x ((List.takeWhile_sublist _).subset hx),List.length_drop,hs];omega
theorem standF_cost {L:List (List UInt8)} (hL:∀ x ∈ L,x.length = 64) {r:Rc} (h:standF L = some r):costR r≤L.length∧r.ok∧(recB r).length≤32768:=by
 cases L with
 | nil => cases h
 | cons s t =>
  have h:(if s.head? = some 1 then parF (strmF s t) else none) = some r:=h;by_cases hh:s.head? = some 1
  ·rw [if_pos hh] at h;obtain ⟨hr,hS,hl⟩:=parF_some h;refine ⟨costN_le ?_,hr,hl⟩;have h1:=strm_len (hL s List.mem_cons_self) fun x hx => hL x (List.mem_cons_of_mem _ hx)
   have h2:(frR r).length≤(strmF s t).length:=by rw [hS,List.length_append];omega
   have h3:=(List.takeWhile_sublist (l:=t) (fun x => x.head? == some (0:UInt8))).length_le;rw [List.length_cons];omega
  ·rw [if_neg hh] at h;cases h
def usedR (rs:List Rc):Nat:=(rs.map costR).sum
theorem usedR_snoc (rs:List Rc) (r:Rc):usedR (rs ++ [r]) = usedR rs + costR r:=by unfold usedR;simp
def folF (rs:List Rc) (r:Rc):Prop:=match (rs.getLast?:Option Rc) with
 | none => r.i = 0∧1≤r.g
 | some l => r.i = rs.length∧r.g = l.g∧l.e≤r.e
instance (rs:List Rc) (r:Rc):Decidable (folF rs r):=by unfold folF;split <;> infer_instance
def scanF:Nat→List (List UInt8)→List Rc→List Rc
 | 0,_,rs => rs
 | f + 1,L,rs => match standF (L.drop (usedR rs)) with
  | some r => if folF rs r then scanF f L (rs ++ [r]) else rs
  | none => rs
structure RcsOk (rs:List Rc):Prop where
 i:∀ (k:Nat) (r:Rc),rs[k]? = some r→r.i = k
 g:∀ (k:Nat) (r:Rc),rs[k]? = some r→1≤r.g∧∀ r0:Rc,rs[0]? = some r0→r.g = r0.g
 o:∀ r ∈ rs,r.ok∧(recB r).length≤32768
theorem RcsOk.nil:RcsOk []:=⟨(fun _ _ h => by cases h),(fun _ _ h => by cases h),(fun _ h => by cases h)⟩
theorem snoc_get {α:Type} {l:List α} {x y:α} {k:Nat} (h:(l ++ [x])[k]? = some y):l[k]? = some y ∨ (k = l.length∧y = x):=by
 by_cases hk:k < l.length
 ·rw [List.getElem?_append_left hk] at h;exact .inl h
 ·rw [List.getElem?_append_right (by omega)] at h;by_cases h0:k - l.length = 0
  ·rw [h0] at h;exact .inr ⟨by omega,(Option.some.inj h).symm⟩
  ·rw [List.getElem?_eq_none (by simp;omega)] at h;cases h
theorem RcsOk.snoc {rs:List Rc} {r:Rc} (h:RcsOk rs) (hf:folF rs r) (ho:r.ok∧(recB r).length≤32768):RcsOk (rs ++ [r]):=by
 unfold folF at hf;refine ⟨fun k x hx => ?_,fun k x hx => ?_,fun x hx => ?_⟩
 ·rcases snoc_get hx with h1 | ⟨rfl,rfl⟩
  ·exact h.i k x h1
  ·split at hf
   ·rename_i hn;rw [List.getLast?_eq_none_iff] at hn;rw [hn];exact hf.1
   ·exact hf.1
 ·split at hf
  ·rename_i hn;rw [List.getLast?_eq_none_iff] at hn;subst hn;rcases snoc_get hx with h1 | ⟨rfl,rfl⟩
   ·cases h1
   ·exact ⟨hf.2,fun r0 h0 => by cases h0;rfl⟩
  ·rename_i l hn;have hne:rs ≠ []:=fun e => by rw [e] at hn;cases hn
   have hpos:0 < rs.length:=List.length_pos_iff.2 hne;have hlast:rs[rs.length - 1]? = some l:=by rw [← List.getLast?_eq_getElem?];exact hn
   have h00:(rs ++ [r])[0]? = rs[0]?:=List.getElem?_append_left hpos;rw [h00];rcases snoc_get hx with h1 | ⟨rfl,rfl⟩
   ·exact h.g k x h1
   ·rw [hf.2.1];exact h.g _ _ hlast
 ·rcases List.mem_append.1 hx with h1 | h1
  ·exact h.o x h1
  ·rw [List.mem_singleton.1 h1];exact ho
theorem scanF_ok:∀ (f:Nat) {L:List (List UInt8)} {rs:List Rc},(∀ x ∈ L,x.length = 64)→RcsOk rs→usedR rs≤L.length→RcsOk (scanF f L rs)∧usedR (scanF f L rs)≤L.length
 | 0,_,_,_,h,hu => ⟨h,hu⟩
 | f + 1,L,rs,hL,h,hu => by
  unfold scanF;split
  ·rename_i r hr;split
   ·rename_i hf;obtain ⟨hc,ho⟩:=standF_cost (fun x hx => hL x (List.mem_of_mem_drop hx)) hr;rw [List.length_drop] at hc;exact scanF_ok f hL (h.snoc hf ho) (by rw [usedR_snoc];omega)
   ·exact ⟨h,hu⟩
  ·exact ⟨h,hu⟩
theorem scanF_more:∀ (f:Nat) {L:List (List UInt8)} {rs:List Rc},(∀ x ∈ L,x.length = 64)→usedR rs≤L.length→L.length - usedR rs < f→scanF f L rs = scanF (L.length + 1) L rs
 | 0,_,_,_,_,h => by omega
 | f + 1,L,rs,hL,hu,h => by
  have key:∀ (f g:Nat) (rs:List Rc),usedR rs≤L.length→L.length - usedR rs < f→L.length - usedR rs < g→scanF f L rs = scanF g L rs:=by
   intro f;induction f with
   | zero => intro g rs _ h;omega
   | succ f ih =>
    intro g rs hu hf hg;cases g with
    | zero => omega
    | succ g =>
     unfold scanF;split
     ·rename_i r hr;split
      ·obtain ⟨hc,-⟩:=standF_cost (fun x hx => hL x (List.mem_of_mem_drop hx)) hr;rw [List.length_drop] at hc;have hp:=costR_pos r;exact ih g _ (by rw [usedR_snoc];omega) (by rw [usedR_snoc];omega) (by rw [usedR_snoc];omega)
      ·rfl
     ·rfl
  exact key _ _ rs hu h (by omega)
def areaF (L:List (List UInt8)):List Rc:=scanF (L.length + 1) L []
def numF (rs:List Rc):Nat:=match rs with
 | [] => 0
 | r :: _ => r.g
abbrev rcC (r:Rc) (a:Option Addr) (c:Nat):List Value:=[.int .i64 r.g,.int .i64 r.e,.int .i64 r.i,.slice a r.d.length c]
abbrev rcV (r:Rc) (a:Option Addr) (c:Nat):Value:=.agg (rcC r a c).toArray
theorem cost_any (w:World) (n:Nat) (h:n≤1000000):Calls Tryz.prog 118 #[.int .i64 n] w fun e w' => e = .returned (.int .i64 (costN n:Int))∧w' = w:=by
 have h1:wrap64 ((n:Int) + 63) = (n:Int) + 63:=by unfold wrap64;omega
 have h2:wrap64 ((n:Int) + 63 - 1) = (n:Int) + 62:=by unfold wrap64;omega
 have h3:wrap64 (((n:Int) + 62).tdiv 63) = (costN n:Int):=by
  rw [Int.tdiv_eq_ediv_of_nonneg (by omega)];unfold costN wrap64;omega
 go_enter Tryz.func118,Tryz.ntmps118;go_wp2_with fail;go_ret;refine ⟨?_,rfl⟩;show Ending.returned (.int .i64 (((n:Int) + 63 - 1) / 63)) = _;congr 2;unfold costN;omega
theorem recB_len {r:Rc} (h:r.g < 9223372036854775808∧r.e < 9223372036854775808∧r.i < 9223372036854775808) (hd:r.d.length≤32768):(recB r).length≤r.d.length + 40:=by
 have h1:=numB_10 h.1;have h2:=numB_10 h.2.1;have h3:=numB_10 h.2.2;have h4:=numB_10 (n:=r.d.length) (by omega);unfold recB;simp only [List.length_append,List.flatMap_cons,List.flatMap_nil,List.length_nil];omega
theorem bytes_large {G:List Nat} {E:Nat→Addr} (w:World) (hE:EAt G E w) (i1:5 ∈ G) (g e i:Int) (a:Option Addr) (n c:Nat) (hn:32000 < n) :
 Calls Tryz.prog 117 #[.agg #[.int .i64 g,.int .i64 e,.int .i64 i,.slice a n c]] w fun r w' => r = .returned (.tuple #[.slice none 0 0,(Value.iface 297 (.pointer (some (E 5))))])∧Gr w w':=by
 have e1:=hE.c0 i1;have hb:=Blk.new w #[.int .i64 g,.int .i64 e,.int .i64 i,.slice a n c] 167;have c3:=hb.cell (i:=3) (v:=.slice a n c) rfl;have z:=hb.lt;have t1:decide ((32000:Int) < n) = true:=decide_eq_true (by omega);have e2:=(hE.gr ((Gr.refl w).alloc (.cells #[.int .i64 g,.int .i64 e,.int .i64 i,.slice a n c] 167))).c0 i1;replace hb:=Lib.hid hb;go_enter Tryz.func117,Tryz.ntmps117;go_upto_region 2 with fail
 go_region;go_wp2_with fail;go_ret2;exact ⟨rfl,(by repeat (first | exact Gr.refl _ | apply Gr.alloc | apply Gr.drew | apply Gr.drewN | (refine Gr.setCell ?_ (by first | (simp;done) | (simp;omega)) _) | (refine Gr.trans ?_ (by assumption))))⟩
set_option maxRecDepth 100000 in
set_option maxHeartbeats 3200000 in
theorem bytes_yes (w:World) (r:Rc) (h:r.g < 9223372036854775808∧r.e < 9223372036854775808∧r.i < 9223372036854775808) (a:Option Addr) (c:Nat) (hB:BytesAt w a r.d) (hc:a = none→c = 0) (hx:∀ x,a = some x→x.block < w.heap.size) (hn:r.d.length≤32000) :
 Calls Tryz.prog 117 #[rcV r a c] w fun e w' => ∃ a' c',e = .returned (.tuple #[.slice a' (frR r).length c',.nilIface])∧Own w w' a' c' (frR r):=by
 have hrl:=recB_len h (by omega);have hrb:recB r = (([] ++ numB r.g) ++ numB r.e) ++ numB r.i ++ numB r.d.length ++ r.d:=by unfold recB;simp
 have hfr:frR r = frameB (recB r):=rfl;obtain ⟨R,hR⟩:∃ R,R = recB r:=⟨_,rfl⟩
 rw [← hR] at hrl hrb hfr;rw [hfr];obtain ⟨g,e,i,d⟩:=r;dsimp only at h hB hn hrb hrl ⊢;have n1:=numB_10 h.1;have n2:=numB_10 h.2.1;have n3:=numB_10 h.2.2;have t1:decide ((32000:Int) < (d.length:Int)) = false:=decide_eq_false (by omega);obtain ⟨wb,hwb⟩:∃ wb,wb = w.alloc (.cells #[.int .i64 g,.int .i64 e,.int .i64 i,.slice a d.length c] 167):=⟨_,rfl⟩
 have gb:Gr w wb:=by rw [hwb];exact (Gr.refl w).alloc _
 have hb:Blk wb w.heap.size #[.int .i64 g,.int .i64 e,.int .i64 i,.slice a d.length c] 167:=by rw [hwb];exact Blk.new _ _ _
 have c3:=hb.cell (i:=3) (v:=.slice a d.length c) rfl;have z:=hb.lt;have hnw:=newWriter_any wb;replace hnw:=Lib.hid hnw;replace hb:=Lib.hid hb;replace hB:=Lib.hid hB;replace hfr:=Lib.hid hfr;replace hrb:=Lib.hid hrb;replace hR:=Lib.hid hR;replace hwb:=Lib.hid hwb;go_enter Tryz.func117,Tryz.ntmps117;go_upto_region 1 with fail
 rw [← hwb.out];go_wp2_with fail;refine hnw.out.mono ?_;rintro q w1 ⟨rfl,hW1⟩;have b1:=hb.out.gr hW1.world;have k1:=b1.cell (i:=0) (v:=.int .i64 g) rfl;have y1:=b1.lt;have l1:(([]:List UInt8)).length≤0:=by (try simp only [List.length_append]);simp only [List.length_nil];omega
 have m1:=num_any wb w1 wb.heap.size _ ([]:List UInt8) g hW1 (by omega) (by have:=h;omega);replace b1:=Lib.hid b1;replace hW1:=Lib.hid hW1;replace m1:=Lib.hid m1;go_wp2_with fail;refine m1.out.mono ?_;rintro q w2 ⟨rfl,hK2⟩;have hW2:=hK2.at;clear hK2;have b2:=hb.out.gr hW2.world;have k2:=b2.cell (i:=1) (v:=.int .i64 e) rfl;have y2:=b2.lt;have l2:((([]:List UInt8) ++ numB g)).length≤10:=by (try simp only [List.length_append]);simp only [List.length_nil];omega
 have m2:=num_any wb w2 wb.heap.size _ (([]:List UInt8) ++ numB g) e hW2 (by omega) (by have:=h;omega);replace b2:=Lib.hid b2;replace hW2:=Lib.hid hW2;replace m2:=Lib.hid m2;go_wp2_with fail;refine m2.out.mono ?_;rintro q w3 ⟨rfl,hK3⟩;have hW3:=hK3.at;clear hK3;have b3:=hb.out.gr hW3.world;have k3:=b3.cell (i:=2) (v:=.int .i64 i) rfl;have y3:=b3.lt;have l3:(((([]:List UInt8) ++ numB g) ++ numB e)).length≤20:=by (try simp only [List.length_append]);simp only [List.length_nil];omega
 have m3:=num_any wb w3 wb.heap.size _ ((([]:List UInt8) ++ numB g) ++ numB e) i hW3 (by omega) (by have:=h;omega);replace b3:=Lib.hid b3;replace hW3:=Lib.hid hW3;replace m3:=Lib.hid m3;go_wp2_with fail;refine m3.out.mono ?_;rintro q w4 ⟨rfl,hK4⟩;have hW4:=hK4.at;clear hK4;have b4:=hb.out.gr hW4.world;have k4:=b4.cell (i:=3) (v:=.slice a d.length c) rfl;have y4:=b4.lt;have l4:((((([]:List UInt8) ++ numB g) ++ numB e) ++ numB i)).length≤30:=by (try simp only [List.length_append]);simp only [List.length_nil];omega
 have m4:=wbytes_any wb w4 wb.heap.size _ (((([]:List UInt8) ++ numB g) ++ numB e) ++ numB i) a c d hW4 (by omega) (hB.out.gr (gb.trans hW4.world)) hc (fun x e => .inl (Nat.lt_of_lt_of_le (hx x e) gb.size)) (by omega);replace b4:=Lib.hid b4;replace hW4:=Lib.hid hW4;replace m4:=Lib.hid m4;go_wp2_with fail;refine m4.out.mono ?_;rintro q w5 ⟨rfl,hW5⟩;rw [← hrb.out] at hW5;have m5:=done_any wb w5 wb.heap.size _ R hW5 (by omega);have g5:=hW5.world;replace hW5:=Lib.hid hW5;replace m5:=Lib.hid m5;go_wp2_with fail;refine m5.out.mono ?_;rintro q w6 ⟨a6,c6,rfl,h6⟩;have m6:=frame_any w6 a6 c6 R h6.2.1 h6.2.2.1 (by omega);have g6:=(gb.trans g5).trans h6.2.2.2.2;replace h6:=Lib.hid h6;replace m6:=Lib.hid m6;go_wp2_with fail;refine m6.out.mono ?_;rintro q w7 ⟨a7,c7,rfl,h7⟩;replace h7:=Lib.hid h7;go_wp2_with fail;go_ret2;exact ⟨a7,c7,rfl,h7.out.older g6⟩
theorem four_drop {S:List UInt8} {k:Nat} (h:k + 4≤S.length):∃ y0 y1 y2 y3 r,S.drop k = y0 :: y1 :: y2 :: y3 :: r:=read_head _ (by rw [List.length_drop];omega)
theorem readF_yes (w:World) (b off c:Nat) (S p:List UInt8) (hS:BytesAt w (some ⟨b,off,none⟩) S) (hc:S.length≤c) (hm:S.length≤maxLen) (hf:frF S = some p) :
 Calls Tryz.prog 155 #[.slice (some ⟨b,off,none⟩) S.length c] w fun e w' => ∃ a' c',e = .returned (.tuple #[.slice a' p.length c',.int .i64 ((p.length:Int) + 8),.nilIface])∧Own w w' a' c' p:=by
 obtain ⟨hSe,hp⟩:=frF_some hf;have hl:p.length + 8≤S.length:=by rw [hSe,List.length_append,frameB_len];omega
 unfold frF at hf;rw [if_neg (by omega)] at hf;obtain ⟨x0,x1,x2,x3,t,hs⟩:=read_head S (by omega);have hu:un32 S = un32 [x0,x1,x2,x3]:=by rw [hs];rfl
 by_cases h2:32768 < un32 S
 ·rw [if_pos h2] at hf;cases hf
 rw [if_neg h2] at hf;by_cases h3:S.length < un32 S + 8
 ·rw [if_pos h3] at hf;cases hf
 rw [if_neg h3] at hf;by_cases h4:crc (S.take (4 + un32 S)) = un32 (S.drop (4 + un32 S))
 ·rw [if_pos h4] at hf;obtain ⟨y0,y1,y2,y3,r,hy⟩:=four_drop (S:=S) (k:=4 + un32 S) (by omega);have hpe:(S.drop 4).take (un32 S) = p:=Option.some.inj hf;have hpl:p.length = un32 S:=by rw [← hpe,List.length_take,List.length_drop];omega
  rw [← hpe];have:=read_good w b off c S hS x0 x1 x2 x3 y0 y1 y2 y3 t r hs (un32 S) hu.symm (by omega) (by omega) hc hm hy (by rw [h4,hy];rfl);rw [hpe] at this ⊢;rw [hpl];exact this
 ·rw [if_neg h4] at hf;cases hf
theorem readF_no {G:List Nat} {E:Nat→Addr} (w:World) (hE:EAt G E w) (i2:9 ∈ G) (i3:5 ∈ G) (b off c:Nat) (S:List UInt8) (hS:BytesAt w (some ⟨b,off,none⟩) S) (hc:S.length≤c) (hm:S.length≤maxLen) (hf:frF S = none) :
 ∃ er:Value,(er = .nilIface ∨ ∃ g,er = .iface 297 (.pointer (some (E g))))∧Calls Tryz.prog 155 #[.slice (some ⟨b,off,none⟩) S.length c] w fun e w' => e = .returned (.tuple #[.slice none 0 0,.int .i64 0,er])∧Gr w w':=by
 unfold frF at hf;by_cases h1:S.length < 4
 ·exact ⟨_,.inl rfl,read_short w _ c S.length h1⟩
 rw [if_neg h1] at hf;obtain ⟨x0,x1,x2,x3,t,hs⟩:=read_head S (by omega);have hu:un32 S = un32 [x0,x1,x2,x3]:=by rw [hs];rfl
 by_cases h2:32768 < un32 S
 ·exact ⟨_,.inr ⟨_,rfl⟩,read_large w b off c S hS hE i3 x0 x1 x2 x3 t hs (by rw [← hu];exact h2)⟩
 rw [if_neg h2] at hf;by_cases h3:S.length < un32 S + 8
 ·exact ⟨_,.inl rfl,read_part w b off c S hS x0 x1 x2 x3 t hs (by omega) (by omega)⟩
 rw [if_neg h3] at hf;by_cases h4:crc (S.take (4 + un32 S)) = un32 (S.drop (4 + un32 S))
 ·rw [if_pos h4] at hf;cases hf
 ·obtain ⟨y0,y1,y2,y3,r,hy⟩:=four_drop (S:=S) (k:=4 + un32 S) (by omega);exact ⟨_,.inr ⟨_,rfl⟩,read_sum w b off c S hS hE i2 x0 x1 x2 x3 y0 y1 y2 y3 t r hs (un32 S) hu.symm (by omega) (by omega) hc hm hy (by rw [hy] at h4;exact h4)⟩
theorem res_cell3 {fn:Func} {p u v:Tmp} {ty:TypeId} (h:fn.results = #[.cell p ty,.tmp u,.tmp v]) (tmps:Array Value) (w:World) {b:Nat} {cs:Array Value} {t:TypeId} {fs:Array Field} (hb:Blk w b cs t)
 (hp:tmps.getD p undef = .pointer (some ⟨b,0,none⟩)) (hu:Tryz.prog.underlying ty = some (.struct fs)) (hi:(Tryz.prog.info? ty).map (·.size) = some cs.size) :
 (results fn tmps).run Tryz.prog w = .ok (.tuple #[.agg cs,tmps.getD u undef,tmps.getD v undef]) w:=by
 have hl:=run_loadVar_row (P:=Tryz.prog) w b t ty cs (0,0) _ hb hu rfl hi;have e:(results fn tmps).run Tryz.prog w =
  ((asAddr (tmps.getD p undef)).run Tryz.prog w).andThen fun a w₁ => ((loadVar ty a).run Tryz.prog w₁).andThen fun x w₂ => .ok (.tuple #[x,tmps.getD u undef,tmps.getD v undef]) w₂:=by
  simp only [results,h];simp [Sem.run_bind,Result.andThen]
 rw [e,hp];simp [asAddr,Result.andThen,hl]
theorem Blk.set4 {w:World} {b:Nat} {cs:Array Value} {t:TypeId} (h:Blk w b cs t) (hs:cs.size = 4) (v0 v1 v2 v3:Value):Blk ((((w.setCell ⟨b,0,none⟩ v0).setCell ⟨b,1,none⟩ v1).setCell ⟨b,2,none⟩ v2).setCell ⟨b,3,none⟩ v3) b #[v0,v1,v2,v3] t:=by
 obtain ⟨l⟩:=cs
 match l,hs with
 | [c0,c1,c2,c3],_ =>
  have h:=((((h.set 0 v0).set 1 v1).set 2 v2).set 3 v3)
  simpa only [List.setIfInBounds_toArray,List.set_cons_zero,List.set_cons_succ] using h
theorem Gr.set4 {w a:World} {b:Nat} (h:Gr w a) (hb:w.heap.size≤b) (v0 v1 v2 v3:Value):Gr w ((((a.setCell ⟨b,0,none⟩ v0).setCell ⟨b,1,none⟩ v1).setCell ⟨b,2,none⟩ v2).setCell ⟨b,3,none⟩ v3):=(Gr.setCell (Gr.setCell (Gr.setCell (Gr.setCell h (p:=⟨b,0,none⟩) hb v0) (p:=⟨b,1,none⟩) hb v1) (p:=⟨b,2,none⟩) hb v2) (p:=⟨b,3,none⟩) hb v3)
theorem BytesAt.set4 {w:World} {a:Option Addr} {l:List UInt8} (h:BytesAt w a l) {b:Nat} (hp:∀ x,a = some x→x.block ≠ b) (v0 v1 v2 v3:Value):BytesAt ((((w.setCell ⟨b,0,none⟩ v0).setCell ⟨b,1,none⟩ v1).setCell ⟨b,2,none⟩ v2).setCell ⟨b,3,none⟩ v3) a l:=(((h.set (p:=⟨b,0,none⟩) hp v0).set (p:=⟨b,1,none⟩) hp v1).set (p:=⟨b,2,none⟩) hp v2).set (p:=⟨b,3,none⟩) hp v3
abbrev rcZ:Array Value:=#[.int .i64 0,.int .i64 0,.int .i64 0,.slice none 0 0]
def ParP (S:List UInt8) (w:World) (e:Ending) (w':World):Prop:=Gr w w'∧match parF S with
 | none => e = .returned (.tuple #[.agg rcZ,.int .i64 0,.bool false])
 | some r => ∃ a c,e = .returned (.tuple #[rcV r a c,.int .i64 (((frR r).length:Nat):Int),.bool true])∧OwnX w w' a c r.d
theorem numsR3 {p:List UInt8} {ns:List Nat} {k:Nat} (h:numsR 3 p = some (ns,k)):∃ g e i,ns = [g,e,i]:=by
 have:=(numsR_get _ _ _ _ h).1
 match ns,this with
 | [g,e,i],_ => exact ⟨g,e,i,rfl⟩
theorem recP_nums {p:List UInt8} (h:numsR 3 p = none):recP p = none:=by unfold recP;rw [h]
theorem recP_bytes {p:List UInt8} {g e i k:Nat} (h:numsR 3 p = some ([g,e,i],k)) (hn:∀ n j,numR (p.drop k) = some (n,j)→¬ (n≤32768∧k + j + n = p.length)):recP p = none:=by
 unfold recP;rw [h];dsimp only;cases hq:numR (p.drop k) with
 | none => rfl
 | some q => dsimp only;rw [if_neg (hn _ _ hq)]
theorem recP_good {p:List UInt8} {g e i k n j:Nat} (h:numsR 3 p = some ([g,e,i],k)) (hq:numR (p.drop k) = some (n,j)) (hn:n≤32768) (hl:k + j + n = p.length):recP p = some ⟨g,e,i,p.drop (k + j)⟩:=by
 unfold recP;rw [h];dsimp only;rw [hq];dsimp only;rw [if_pos ⟨hn,hl⟩]
set_option maxRecDepth 100000 in
set_option maxHeartbeats 3200000 in
theorem parse_shut {E:Nat→Addr} (w:World) (s:Value) (S:List UInt8) (er:Value) (her:er = .nilIface ∨ ∃ g,er = .iface 297 (.pointer (some (E g)))) (hf:parF S = none)
 (hR:Calls Tryz.prog 155 #[s] (w.alloc (.cells rcZ 167)) fun e w' => e = .returned (.tuple #[.slice none 0 0,.int .i64 0,er])∧Gr (w.alloc (.cells rcZ 167)) w') :
 Calls Tryz.prog 174 #[s] w (ParP S w):=by
 have fin:∀ w1,Gr (w.alloc (.cells rcZ 167)) w1→ParP S w (.returned (.tuple #[.agg rcZ,.int .i64 0,.bool false])) ((((w1.setCell ⟨w.heap.size,0,none⟩ (.int .i64 0)).setCell ⟨w.heap.size,1,none⟩ (.int .i64 0)).setCell ⟨w.heap.size,2,none⟩ (.int .i64 0)).setCell ⟨w.heap.size,3,none⟩ (.slice none 0 0)):=fun w1 g1 => by
  refine ⟨(((Gr.refl w).alloc _).trans g1).set4 (Nat.le_refl _) _ _ _ _,?_⟩;rw [hf]
 replace hR:=Lib.hid hR;replace fin:=Lib.hid fin;rcases her with rfl | ⟨g,rfl⟩
 all_goals
  go_enter Tryz.func174,Tryz.ntmps174;go_wp2_with fail;refine hR.out.mono ?_;rintro e w1 ⟨rfl,g1⟩;have hB:=(Blk.new w rcZ 167).gr g1;have z1:=hB.lt;have f0:=hB.free 0;have f1:=hB.free 1;have f2:=hB.free 2;have f3:=hB.free 3;have c0:=hB.cell (i:=0) (v:=.int .i64 0) rfl;have c1:=hB.cell (i:=1) (v:=.int .i64 0) rfl;have c2:=hB.cell (i:=2) (v:=.int .i64 0) rfl;have c3:=hB.cell (i:=3) (v:=.slice none 0 0) rfl;replace hB:=Lib.hid hB;go_wp2_with fail;refine bodyPost_ret (v:=.tuple #[.agg rcZ,.int .i64 0,.bool false]) ?_ rfl (fin.out w1 g1);exact (res_cell3 (b:=w.heap.size) (t:=167) Tryz.results174 _ _ (hB.out.set4 rfl _ _ _ _) rfl Tryz.underlying167 (by kernel_rfl)).trans rfl
theorem ptrs3 {w:World} {tb ab:Nat} {t:TypeId} (h:Blk w tb #[.pointer (some ⟨ab,0,none⟩),.pointer (some ⟨ab,1,none⟩),.pointer (some ⟨ab,2,none⟩)] t):∀ j,j < 3→w.cell? ⟨tb,j,none⟩ = some (.pointer (some ⟨ab,j,none⟩)):=fun j hj => by
 match j,hj with
 | 0,_ => exact h.cell rfl
 | 1,_ => exact h.cell rfl
 | 2,_ => exact h.cell rfl
set_option maxHeartbeats 1600000 in
theorem newReader_new (w:World) (a:Option Addr) (c:Nat) (l:List UInt8) (h:BytesAt w a l) (hc:a = none→c = 0) (hm:l.length≤100000) :
 Calls Tryz.prog 90 #[.slice a l.length c] w fun e w' => ∃ rb,e = .returned (.pointer (some ⟨rb,0,none⟩))∧RdAt (fun b => w.heap.size≤b∧b < w'.heap.size) w' rb l 0∧w.heap.size≤rb∧Gr w w':=by
 have hcl:=cloneB_any w a c l h hc (by omega);replace hcl:=Lib.hid hcl;replace h:=Lib.hid h;replace hc:=Lib.hid hc;go_enter Tryz.func90,Tryz.ntmps90;go_wp2_with fail;refine hcl.out.mono ?_;rintro e w1 ⟨a1,c1,rfl,h1⟩;have hx:=h1.x;have g:=h1.2.2.2.2;have hb:=h1.2.2.2.1;replace h1:=Lib.hid h1;replace hb:=Lib.hid hb;go_wp2_with fail;go_ret;refine ⟨w1.heap.size,rfl,⟨a1,c1,Blk.new w1 _ _,hx.2.1.gr ((Gr.refl w1).alloc _),hx.2.2.1,fun x hxx => ?_,Nat.zero_le _,hx.cap,hm⟩,g.size,g.alloc _⟩;have:=hx.lt hxx;exact ⟨by omega,hb.out x hxx,by simp;omega⟩
set_option maxRecDepth 100000 in
set_option maxHeartbeats 12800000 in
theorem parse_open {G:List Nat} {E:Nat→Addr} (w:World) (hE:EAt G E w) (i1:3 ∈ G) (s:Value) (S p:List UInt8) (hpl:p.length≤32768) (hf:frF S = some p)
 (hR:Calls Tryz.prog 155 #[s] (w.alloc (.cells rcZ 167)) fun e w' => ∃ a' c',e = .returned (.tuple #[.slice a' p.length c',.int .i64 ((p.length:Int) + 8),.nilIface])∧Own (w.alloc (.cells rcZ 167)) w' a' c' p) :
 Calls Tryz.prog 174 #[s] w (ParP S w):=by
 have hpf:parF S = recP p:=by unfold parF;rw [hf]
 have e1:((p.length:Int) + 8 == 0) = false:=beq_eq_false_iff_ne.2 (by omega);have hnr:=fun w1 a1 c1 (ho:BytesAt w1 a1 p) (h2:a1 = none→c1 = 0) => newReader_new w1 a1 c1 p ho h2 (by omega)
 have shut:∀ w1,Gr (w.alloc (.cells rcZ 167)) w1→recP p = none→ParP S w (.returned (.tuple #[.agg rcZ,.int .i64 0,.bool false])) ((((w1.setCell ⟨w.heap.size,0,none⟩ (.int .i64 0)).setCell ⟨w.heap.size,1,none⟩ (.int .i64 0)).setCell ⟨w.heap.size,2,none⟩ (.int .i64 0)).setCell ⟨w.heap.size,3,none⟩ (.slice none 0 0)):=fun w1 g1 hn => by
  refine ⟨(((Gr.refl w).alloc _).trans g1).set4 (Nat.le_refl _) _ _ _ _,?_⟩;rw [hpf,hn]
 obtain ⟨n,hn⟩:∃ n,n = p.length:=⟨_,rfl⟩
 rw [← hn] at hR hnr hpl e1;replace hf:=Lib.hid hf;replace hpf:=Lib.hid hpf;replace hn:=Lib.hid hn;replace hR:=Lib.hid hR;replace hnr:=Lib.hid hnr;replace shut:=Lib.hid shut;go_enter Tryz.func174,Tryz.ntmps174;go_wp2_with fail;refine hR.out.mono ?_;rintro e w1 ⟨a1,c1,rfl,h1⟩;have g1:=h1.2.2.2.2;have hT1:=(Blk.new w rcZ 167).gr g1;have s1:=g1.size;simp only [World.size_alloc] at s1;obtain ⟨w2,hw2⟩:∃ w2,w2 = w1.alloc (.cells rcZ 167):=⟨_,rfl⟩
 have g12:Gr w1 w2:=by rw [hw2];exact (Gr.refl w1).alloc _
 have hr2:Blk w2 w1.heap.size rcZ 167:=by rw [hw2];exact Blk.new _ _ _
 have hnr2:=hnr.out w2 a1 c1 (h1.2.1.gr g12) h1.2.2.1;replace h1:=Lib.hid h1;replace hT1:=Lib.hid hT1;replace hnr2:=Lib.hid hnr2;replace hr2:=Lib.hid hr2;replace hw2:=Lib.hid hw2;go_upto_region 5 with fail
 rw [← hw2.out];go_wp2_with fail;refine hnr2.out.mono ?_;rintro e w3 ⟨rb,rfl,hrd3,hrb3,g23⟩;have hr3:=hr2.out.gr g23;have s2:=hr2.out.lt;have s3:=hr3.lt;have hT3:=(hT1.out.gr g12).gr g23;have sT:=hT3.lt;have hrbl:rb < w3.heap.size:=by obtain ⟨_,_,hh,_⟩:=hrd3;exact hh.lt
 obtain ⟨nb,hnb⟩:∃ nb,nb = w1.heap.size:=⟨_,rfl⟩
 obtain ⟨ub,hub⟩:∃ ub,ub = w3.heap.size:=⟨_,rfl⟩
 rw [← hnb] at hr3 hr2 s1 s2;have hub2:w3.heap.size = ub:=hub.symm;rw [← hub] at s3 sT hrbl;obtain ⟨w4,hw4⟩:∃ w4,w4 = w3.alloc (.cells #[.pointer (some ⟨nb,0,none⟩),.pointer (some ⟨nb,1,none⟩),.pointer (some ⟨nb,2,none⟩)] 287):=⟨_,rfl⟩
 have g34:Gr w3 w4:=by rw [hw4];exact (Gr.refl w3).alloc _
 have hP4:Blk w4 ub #[.pointer (some ⟨nb,0,none⟩),.pointer (some ⟨nb,1,none⟩),.pointer (some ⟨nb,2,none⟩)] 287:=by rw [hw4,hub];exact Blk.new _ _ _
 have hr4:=hr3.gr g34;have hT4:=hT3.gr g34;have hrd4:RdAt (· ≠ nb) w4 rb p 0:=(hrd3.gr g34).mono (fun b hb => by have:=hb.1;omega);have hrn:nb < rb:=by omega
 have gw4:Gr (w.alloc (.cells rcZ 167)) w4:=((g1.trans g12).trans g23).trans g34;have sw4:=gw4.size;simp only [World.size_alloc] at sw4;have gE:EAt G E w4:=hE.gr (((Gr.refl w).alloc _).trans gw4);have zu4:=hP4.lt;have h0:numsR 3 p = (numsR (3 - ([]:List Nat).length) (p.drop 0)).map fun r => ([] ++ r.1,0 + r.2):=by
  rw [List.length_nil,Nat.sub_zero,List.drop_zero];cases numsR 3 p with
  | none => rfl
  | some q => show some q = some (_,_);rw [Nat.zero_add];rfl
 have hT:=ptrs3 hP4;replace h0:=Lib.hid h0;replace hT:=Lib.hid hT;replace hrd3:=Lib.hid hrd3;replace hrd4:=Lib.hid hrd4;replace hr3:=Lib.hid hr3;replace hr4:=Lib.hid hr4;replace hT3:=Lib.hid hT3;replace hT4:=Lib.hid hT4;replace hP4:=Lib.hid hP4;replace hnb:=Lib.hid hnb;replace hub:=Lib.hid hub;replace hw4:=Lib.hid hw4;rw [← hnb.out];go_upto_region 7 with fail
 rw [← hw4.out];go_loopw [32] (fun iv wr => ∃ (i k:Nat) (ns:List Nat),iv = .int .i64 i∧i≤3∧Hid (ns.length = i)∧Hid (numsR 3 p = (numsR (3 - ns.length) (p.drop k)).map fun r => (ns ++ r.1,k + r.2))∧RdAt (· ≠ nb) wr rb p k∧Blk wr nb (over rcZ ns) 167∧GrX [rb,nb] w4 wr) (fun iv _ => 3 - (intOf iv).toNat);case atStart => exact ⟨0,0,[],rfl,Nat.zero_le _,Lib.hid rfl,h0,hrd4.out,by rw [over_nil];exact hr4.out,GrX.refl _ _⟩
 case round =>
  obtain ⟨i,k,ns,rfl,him,hns,heq,hrd,hbl,hg⟩:=hrel;have gwr:Gr (w.alloc (.cells rcZ 167)) wr:=GrX.all gw4 hg (fun x hx => by simp at hx;simp;rcases hx with rfl | rfl <;> omega);have hTr:Blk wr w.heap.size rcZ 167:=hT4.out.grx hg (by simp;omega);have zwr:=hTr.lt;have hEr:EAt G E wr:=(hE.gr ((Gr.refl w).alloc _)).gr gwr;clear h0;by_cases hi:i < 3
  ·obtain ⟨s1,s2,s3⟩:=numsR_step (by rw [hns.out];exact hi) heq.out;have hc:=hT.out i hi;rw [← hg.cell zu4 (by simp;omega)] at hc;by_cases hgood:∃ v j,numR (p.drop k) = some (v,j)∧v≤1099511627776
   ·obtain ⟨v,j,hq,hv⟩:=hgood;have s4:=s3 v j hq hv;have hnm:=rnum_yes wr rb p k 1099511627776 hrd hq (by omega);have hsz:i < (over rcZ ns).size:=by rw [over_size (by rw [hns.out];show i≤4;omega)];show i < 4;omega
    clear s1 s2 s3;replace s4:=Lib.hid s4;replace hnm:=Lib.hid hnm;replace hq:=Lib.hid hq;replace hbl:=Lib.hid hbl;replace hrd:=Lib.hid hrd;replace hsz:=Lib.hid hsz;replace hTr:=Lib.hid hTr;have hi2:(i:Int) < 3:=by omega
    go_wp2_with fail;refine hnm.out.mono ?_;rintro e w5 ⟨rfl,hrd1,hg1⟩;have hb1:=hbl.out.grx hg1 (by simp;omega);have cA:=hb1.cell (i:=i) (Array.getElem?_eq_getElem hsz.out);have fA:=hb1.free i;have hb2:=hb1.set i (.int .i64 v);rw [show (over rcZ ns).setIfInBounds i (.int .i64 (v:Int)) = over rcZ (ns ++ [v]) by have:=over_set (cs:=rcZ) (ns:=ns) (by rw [hns.out];show i < 4;omega) v;rwa [hns.out] at this] at hb2;replace hb1:=Lib.hid hb1;replace hb2:=Lib.hid hb2;replace hrd1:=Lib.hid hrd1;go_wp2_with fail;go_roundw;case rel =>
     refine ⟨i + 1,k + j,ns ++ [v],by go_num,by omega,Lib.hid (by rw [List.length_append,hns.out];rfl),s4,?_,hb2.out,(hg.trans (hg1.mono (fun x hx => by simp at hx;simp [hx]))).set (.inl (by simp)) _⟩;exact hrd1.out.grx (S:=[nb]) ((GrX.refl _ _).set (p:=⟨nb,i,none⟩) (.inl (by simp)) (.int .i64 v)) (by simp;omega) (fun b hb => by simpa using hb)
    case measure => simp [intOf];omega
   ·have hnone:numsR 3 p = none:=by
     cases hq:numR (p.drop k) with
     | none => exact s1 hq
     | some q => exact s2 q.1 q.2 hq (by
      have:¬ q.1≤1099511627776:=fun hle => hgood ⟨q.1,q.2,hq,hle⟩
      omega)
    have hnm:=rnum_no wr rb p k 1099511627776 hrd hEr i1 (fun v j hq => by
     have:¬ v≤1099511627776:=fun hle => hgood ⟨v,j,hq,hle⟩
     omega)
    have hsz:i < (over rcZ ns).size:=by rw [over_size (by rw [hns.out];show i≤4;omega)];show i < 4;omega
    clear s1 s2 s3 hgood;have hrn2:=recP_nums hnone;replace hnone:=Lib.hid hnone;replace hrn2:=Lib.hid hrn2;replace hnm:=Lib.hid hnm;replace hrd:=Lib.hid hrd;replace hbl:=Lib.hid hbl;replace hTr:=Lib.hid hTr;replace hsz:=Lib.hid hsz;have hi2:(i:Int) < 3:=by omega
    go_wp2_with fail;refine hnm.out.mono ?_;rintro e w5 ⟨rfl,hg1⟩;have hb1:=hbl.out.gr hg1;have cA:=hb1.cell (i:=i) (Array.getElem?_eq_getElem hsz.out);have fA:=hb1.free i;obtain ⟨w6,hw6⟩:∃ w6,w6 = w5.setCell ⟨nb,i,none⟩ (.int .i64 0):=⟨_,rfl⟩
    have g56:GrX [nb] w5 w6:=by rw [hw6];exact (GrX.refl _ _).set (.inl (by simp)) _
    have g6:Gr (w.alloc (.cells rcZ 167)) w6:=GrX.all (gwr.trans hg1) g56 (fun x hx => by simp at hx;simp;omega);have hB:=(hTr.out.gr hg1).grx g56 (by simp;omega);have z1:=hB.lt;have f0:=hB.free 0;have f1:=hB.free 1;have f2:=hB.free 2;have f3:=hB.free 3;have c0:=hB.cell (i:=0) (v:=.int .i64 0) rfl;have c1:=hB.cell (i:=1) (v:=.int .i64 0) rfl;have c2:=hB.cell (i:=2) (v:=.int .i64 0) rfl;have c3:=hB.cell (i:=3) (v:=.slice none 0 0) rfl;replace hB:=Lib.hid hB;replace hb1:=Lib.hid hb1;replace hw6:=Lib.hid hw6;go_upto_region 10 with fail
    rw [← hw6.out];go_wp2_with fail;refine bodyPost_ret (v:=.tuple #[.agg rcZ,.int .i64 0,.bool false]) ?_ rfl (shut.out w6 g6 hrn2.out);exact (res_cell3 (b:=w.heap.size) (t:=167) Tryz.results174 _ _ (hB.out.set4 rfl _ _ _ _) rfl Tryz.underlying167 (by kernel_rfl)).trans rfl
  ·obtain rfl:i = 3:=by omega
   have hd:=numsR_done hns.out heq.out;obtain ⟨q0,q1,q2,rfl⟩:=numsR3 hd;have hbl2:Blk wr nb #[.int .i64 q0,.int .i64 q1,.int .i64 q2,.slice none 0 0] 167:=hbl;have hkl:k≤p.length:=by obtain ⟨_,_,_,_,_,_,hh,_⟩:=hrd;exact hh
   have n3:=hbl2.cell (i:=3) (v:=.slice none 0 0) rfl;have nf3:=hbl2.free 3;have zn3:=hbl2.lt;clear heq hns;by_cases hgb:∃ n j,numR (p.drop k) = some (n,j)∧n≤32768∧n≤p.length - (k + j)
   ·obtain ⟨m,j,hq,hm1,hm2⟩:=hgb;have hkj:=(numR_bd hq).2.2.2;dsimp only at hkj;rw [List.length_drop] at hkj;have hby:=rbytes_yes wr rb p k 32768 hrd hq (by omega) hm2;replace hd:=Lib.hid hd;replace hq:=Lib.hid hq;replace hby:=Lib.hid hby;replace hrd:=Lib.hid hrd;replace hbl:=Lib.hid hbl;replace hbl2:=Lib.hid hbl2;replace hTr:=Lib.hid hTr;go_wp2_with fail;refine hby.out.mono ?_;rintro e w5 ⟨a5,c5,rfl,ho5,hrd5,hg1⟩;have hb1:=hbl2.out.grx hg1 (by simp;omega);have cA:=hb1.cell (i:=3) (v:=.slice none 0 0) rfl;have fA:=hb1.free 3;obtain ⟨w6,hw6⟩:∃ w6,w6 = w5.setCell ⟨nb,3,none⟩ (.slice a5 m c5):=⟨_,rfl⟩
    have g56:GrX [nb] w5 w6:=by rw [hw6];exact (GrX.refl _ _).set (.inl (by simp)) _
    have hg6:GrX [rb,nb] wr w6:=(hg1.mono (fun x hx => by simp at hx;simp [hx])).trans (g56.mono (fun x hx => by simp at hx;simp [hx]));have g6:Gr (w.alloc (.cells rcZ 167)) w6:=GrX.all gwr hg6 (fun x hx => by simp at hx;simp;rcases hx with rfl | rfl <;> omega);have hB:=hTr.out.grx hg6 (by simp;omega);have hb6:Blk w6 nb #[.int .i64 q0,.int .i64 q1,.int .i64 q2,.slice a5 m c5] 167:=by rw [hw6];exact hb1.set 3 _
    have hrd6:=hrd5.grx g56 (by simp;omega) (fun b hb => by simpa using hb);have h5n:∀ x,a5 = some x→x.block ∉ [nb]:=fun x hx => by have:=ho5.2.2.2 x hx;simp;omega
    have ho6:=ho5.grx g56 h5n;have hE6:=(hE.gr ((Gr.refl w).alloc _)).gr g6;by_cases hend:k + j + m = p.length
    ·have hrp:=recP_good hd.out hq.out hm1 hend;have hen:=rend_yes w6 rb p (by rw [hend] at hrd6;exact hrd6);have htk:(p.drop (k + j)).take m = p.drop (k + j):=List.take_of_length_le (by rw [List.length_drop];omega);have hml:m = (p.drop (k + j)).length:=by rw [List.length_drop];omega
     rw [htk] at ho5 ho6;replace hen:=Lib.hid hen;replace hrp:=Lib.hid hrp;replace htk:=Lib.hid htk;replace hml:=Lib.hid hml;replace hend:=Lib.hid hend;replace ho5:=Lib.hid ho5;replace ho6:=Lib.hid ho6;replace hrd5:=Lib.hid hrd5;replace hrd6:=Lib.hid hrd6;replace hb1:=Lib.hid hb1;replace hb6:=Lib.hid hb6;replace hB:=Lib.hid hB;replace hw6:=Lib.hid hw6;go_upto_region 14 with fail
     rw [← hw6.out];go_wp2_with fail;refine hen.out.mono ?_;rintro e w7 ⟨rfl,g67⟩;have hB7:=hB.out.gr g67;have hb7:=hb6.out.gr g67;have z1:=hB7.lt;have f0:=hB7.free 0;have f1:=hB7.free 1;have f2:=hB7.free 2;have f3:=hB7.free 3;have c0:=hB7.cell (i:=0) (v:=.int .i64 0) rfl;have c1:=hB7.cell (i:=1) (v:=.int .i64 0) rfl;have c2:=hB7.cell (i:=2) (v:=.int .i64 0) rfl;have c3:=hB7.cell (i:=3) (v:=.slice none 0 0) rfl;have z7:=hb7.lt;have d0:=hb7.cell (i:=0) (v:=.int .i64 q0) rfl;have d1:=hb7.cell (i:=1) (v:=.int .i64 q1) rfl;have d2:=hb7.cell (i:=2) (v:=.int .i64 q2) rfl;have d3:=hb7.cell (i:=3) (v:=.slice a5 m c5) rfl;replace hB7:=Lib.hid hB7;replace hb7:=Lib.hid hb7;go_wp2_with fail;refine bodyPost_ret (v:=.tuple #[.agg #[.int .i64 q0,.int .i64 q1,.int .i64 q2,.slice a5 m c5],.int .i64 ((n:Int) + 8),.bool true]) ?_ rfl ⟨((((Gr.refl w).alloc _).trans g6).trans g67).set4 (Nat.le_refl _) _ _ _ _,?_⟩
     ·exact (res_cell3 (b:=w.heap.size) (t:=167) Tryz.results174 _ _ (hB7.out.set4 rfl _ _ _ _) rfl Tryz.underlying167 (by kernel_rfl)).trans rfl
     ·rw [hpf.out,hrp.out];have hfl:((frR ⟨q0,q1,q2,p.drop (k + j)⟩).length:Nat) = n + 8:=by
       have hp2:=(recP_some hrp.out).1;unfold frR;rw [frameB_len,← hp2,hn.out]
      refine ⟨a5,c5,?_,?_⟩
      ·have hv:rcV ⟨q0,q1,q2,p.drop (k + j)⟩ a5 c5 = .agg #[.int .i64 q0,.int .i64 q1,.int .i64 q2,.slice a5 m c5]:=by
        show Value.agg #[.int .i64 q0,.int .i64 q1,.int .i64 q2,.slice a5 (p.drop (k + j)).length c5] = _;rw [← hml.out]
       rw [hfl,hv]
       push_cast
       rfl
      ·have h7:=(ho6.out.gr g67).older (W:=w) (by omega);refine ⟨?_,h7.2.1.set4 (fun x hx => by have:=ho5.out.2.2.2 x hx;omega) _ _ _ _,h7.2.2.1,h7.2.2.2⟩;have hne:∀ g,(Value.slice a5 (p.drop (k + j)).length c5).ownBlock = some g→g ≠ w.heap.size:=fun g hg => by
        cases a5 with
        | none => cases hg
        | some x => cases hg;have:=ho5.out.2.2.2 x rfl;omega
       exact owns_set (owns_set (owns_set (owns_set h7.1 (p:=⟨w.heap.size,0,none⟩) hne _) (p:=⟨w.heap.size,1,none⟩) hne _) (p:=⟨w.heap.size,2,none⟩) hne _) (p:=⟨w.heap.size,3,none⟩) hne _
    ·have hrn2:recP p = none:=recP_bytes hd.out fun n j2 hq2 hx => by
      rw [hq.out] at hq2;injection hq2 with hq2
      injection hq2 with h1 h2
      exact hend (by omega)
     have hen:=rend_no w6 rb p (k + j + m) hrd6 (by omega) hE6 i1;replace hen:=Lib.hid hen;replace hrn2:=Lib.hid hrn2;replace hend:=Lib.hid hend;replace ho5:=Lib.hid ho5;replace ho6:=Lib.hid ho6;replace hrd5:=Lib.hid hrd5;replace hrd6:=Lib.hid hrd6;replace hb1:=Lib.hid hb1;replace hb6:=Lib.hid hb6;replace hB:=Lib.hid hB;replace hw6:=Lib.hid hw6;go_upto_region 14 with fail
     rw [← hw6.out];go_wp2_with fail;refine hen.out.mono ?_;rintro e w7 ⟨rfl,g67⟩;have hB7:=hB.out.gr g67;have z1:=hB7.lt;have f0:=hB7.free 0;have f1:=hB7.free 1;have f2:=hB7.free 2;have f3:=hB7.free 3;have c0:=hB7.cell (i:=0) (v:=.int .i64 0) rfl;have c1:=hB7.cell (i:=1) (v:=.int .i64 0) rfl;have c2:=hB7.cell (i:=2) (v:=.int .i64 0) rfl;have c3:=hB7.cell (i:=3) (v:=.slice none 0 0) rfl;replace hB7:=Lib.hid hB7;go_wp2_with fail;refine bodyPost_ret (v:=.tuple #[.agg rcZ,.int .i64 0,.bool false]) ?_ rfl (shut.out w7 (g6.trans g67) hrn2.out);exact (res_cell3 (b:=w.heap.size) (t:=167) Tryz.results174 _ _ (hB7.out.set4 rfl _ _ _ _) rfl Tryz.underlying167 (by kernel_rfl)).trans rfl
   ·have hrn2:recP p = none:=recP_bytes hd fun n j hq hx => hgb ⟨n,j,hq,hx.1,by omega⟩
    have hby:=rbytes_no wr rb p k 32768 hrd hEr i1 (fun v j hq => by
     by_cases hx:v≤32768
     ·right;have:¬ v≤p.length - (k + j):=fun hle => hgb ⟨v,j,hq,hx,hle⟩
      omega
     ·left;omega)
    clear hgb;replace hd:=Lib.hid hd;replace hrn2:=Lib.hid hrn2;replace hby:=Lib.hid hby;replace hrd:=Lib.hid hrd;replace hbl:=Lib.hid hbl;replace hbl2:=Lib.hid hbl2;replace hTr:=Lib.hid hTr;go_wp2_with fail;refine hby.out.mono ?_;rintro e w5 ⟨rfl,hg1⟩;have hb1:=hbl2.out.gr hg1;have cA:=hb1.cell (i:=3) (v:=.slice none 0 0) rfl;have fA:=hb1.free 3;obtain ⟨w6,hw6⟩:∃ w6,w6 = w5.setCell ⟨nb,3,none⟩ (.slice none 0 0):=⟨_,rfl⟩
    have g56:GrX [nb] w5 w6:=by rw [hw6];exact (GrX.refl _ _).set (.inl (by simp)) _
    have g6:Gr (w.alloc (.cells rcZ 167)) w6:=GrX.all (gwr.trans hg1) g56 (fun x hx => by simp at hx;simp;omega);have hB:=(hTr.out.gr hg1).grx g56 (by simp;omega);have z1:=hB.lt;have f0:=hB.free 0;have f1:=hB.free 1;have f2:=hB.free 2;have f3:=hB.free 3;have c0:=hB.cell (i:=0) (v:=.int .i64 0) rfl;have c1:=hB.cell (i:=1) (v:=.int .i64 0) rfl;have c2:=hB.cell (i:=2) (v:=.int .i64 0) rfl;have c3:=hB.cell (i:=3) (v:=.slice none 0 0) rfl;replace hB:=Lib.hid hB;replace hb1:=Lib.hid hb1;replace hw6:=Lib.hid hw6;go_upto_region 14 with fail
    rw [← hw6.out];go_wp2_with fail;refine bodyPost_ret (v:=.tuple #[.agg rcZ,.int .i64 0,.bool false]) ?_ rfl (shut.out w6 g6 hrn2.out);exact (res_cell3 (b:=w.heap.size) (t:=167) Tryz.results174 _ _ (hB.out.set4 rfl _ _ _ _) rfl Tryz.underlying167 (by kernel_rfl)).trans rfl
theorem parse_any {G:List Nat} {E:Nat→Addr} (w:World) (hE:EAt G E w) (i1:3 ∈ G) (i2:9 ∈ G) (i3:5 ∈ G) (b off c:Nat) (S:List UInt8) (hS:BytesAt w (some ⟨b,off,none⟩) S) (hc:S.length≤c) (hm:S.length≤maxLen) :
 Calls Tryz.prog 174 #[.slice (some ⟨b,off,none⟩) S.length c] w (ParP S w):=by
 have ga:Gr w (w.alloc (.cells rcZ 167)):=(Gr.refl w).alloc _;cases hf:frF S with
 | none =>
  obtain ⟨er,her,hR⟩:=readF_no _ (hE.gr ga) i2 i3 b off c S (hS.gr ga) hc hm hf;exact parse_shut w _ S er her (by unfold parF;rw [hf]) hR
 | some p => exact parse_open w hE i1 _ S p (frF_some hf).2 hf (readF_yes _ b off c S p (hS.gr ga) hc hm hf)
abbrev secS (x:Nat × List UInt8):List Value:=[.slice (some ⟨x.1,0,none⟩) 64 64]
theorem secS_len (x:Nat × List UInt8):(secS x).length = 1:=rfl
theorem secS_one (x:Nat × List UInt8):∀ u ∈ secS x,u.oneCell' = true:=by intro u hu;simp at hu;subst hu;rfl
structure SecsAt (w:World) (a:Option Addr) (L:List (Nat × List UInt8)):Prop where
 r:RecsAt 1 secS w a L
 b:∀ x ∈ L,BytesAt w (some ⟨x.1,0,none⟩) x.2∧x.2.length = 64
theorem SecsAt.gr {w w':World} {a:Option Addr} {L:List (Nat × List UInt8)} (h:SecsAt w a L) (g:Gr w w'):SecsAt w' a L:=by
 refine ⟨fun i s hi => ?_,fun x hx => ⟨(h.b x hx).1.gr g,(h.b x hx).2⟩⟩;obtain ⟨b,off,ha,hb,hc⟩:=h.r i s hi;exact ⟨b,off,ha,Nat.lt_of_lt_of_le hb g.size,fun j u hu => by rw [g.cells.1 _ _ hb];exact hc j u hu⟩
theorem SecsAt.drop {w:World} {b off:Nat} {L:List (Nat × List UInt8)} (h:SecsAt w (some ⟨b,off,none⟩) L) (k:Nat):SecsAt w (some ⟨b,off + k,none⟩) (L.drop k):=by
 refine ⟨fun i s hi => ?_,fun x hx => h.b x (List.mem_of_mem_drop hx)⟩;rw [List.getElem?_drop] at hi;obtain ⟨b',off',ha,hb,hc⟩:=h.r _ s hi;cases ha
 exact ⟨b,off + k,rfl,hb,fun j u hu => by rw [show off + k + i * 1 + j = off + (k + i) * 1 + j by omega];exact hc j u hu⟩
theorem SecsAt.cell {w:World} {b off:Nat} {L:List (Nat × List UInt8)} (h:SecsAt w (some ⟨b,off,none⟩) L) {i:Nat} {x:Nat × List UInt8} (hx:L[i]? = some x):b < w.heap.size∧w.cell? ⟨b,off + i,none⟩ = some (.slice (some ⟨x.1,0,none⟩) 64 64):=by
 obtain ⟨b',off',ha,hb,hc⟩:=h.r i x hx;cases ha
 have:=hc 0 _ rfl;rw [Nat.mul_one] at this;exact ⟨hb,this⟩
def StdP (L:List (List UInt8)) (w:World) (e:Ending) (w':World):Prop:=Gr w w'∧match standF L with
 | none => e = .returned (.tuple #[.agg rcZ,.int .i64 0,.bool false])
 | some r => ∃ a c,e = .returned (.tuple #[rcV r a c,.int .i64 (costR r:Int),.bool true])∧OwnX w w' a c r.d
theorem strm_stop {s:List UInt8} {t:List (List UInt8)} {i:Nat} {x:List UInt8} (hz:∀ y ∈ t.take i,y.head? = some 0) (hx:t[i]? = some x) (hn:x.head? ≠ some 0):strmF s t = s.drop 1 ++ (t.take i).flatMap (·.drop 1):=by
 unfold strmF;congr 2;have hs:t = t.take i ++ x :: t.drop (i + 1):=by
  obtain ⟨hlt,he⟩:=List.getElem?_eq_some_iff.1 hx;rw [← he,List.getElem_cons_drop,List.take_append_drop]
 conv => lhs;rw [hs]
 rw [List.takeWhile_append_of_pos (fun y hy => by simp [hz y hy]),List.takeWhile_cons_of_neg (by simpa using hn),List.append_nil]
theorem strm_all {s:List UInt8} {t:List (List UInt8)} (hz:∀ y ∈ t,y.head? = some 0):strmF s t = s.drop 1 ++ t.flatMap (·.drop 1):=by
 unfold strmF;congr 2;have h:∀ u:List (List UInt8),(∀ y ∈ u,y.head? = some 0)→u.takeWhile (fun x => x.head? == some 0) = u:=by
  intro u;induction u with
  | nil => intro _;rfl
  | cons a u ih =>
   intro hu;rw [List.takeWhile_cons_of_pos (by simp [hu a List.mem_cons_self]),ih fun y hy => hu y (List.mem_cons_of_mem _ hy)]
 exact h t hz
theorem head_of {x:List UInt8} (h:x.length = 64):∃ d,x[0]? = some d∧x.head? = some d:=by
 cases x with
 | nil => simp at h
 | cons d r => exact ⟨d,rfl,rfl⟩
theorem stands_no {s:List UInt8} {t:List (List UInt8)} (h:s.head? ≠ some 1):standF (s :: t) = none:=by
 show (if s.head? = some 1 then parF (strmF s t) else none) = none;rw [if_neg h]
theorem stands_yes {s:List UInt8} {t:List (List UInt8)} (h:s.head? = some 1):standF (s :: t) = parF (strmF s t):=by
 show (if s.head? = some 1 then parF (strmF s t) else none) = _;rw [if_pos h]
set_option maxRecDepth 100000 in
set_option maxHeartbeats 3200000 in
theorem stands_nil (w:World) (a:Option Addr) (c:Nat) :
 Calls Tryz.prog 153 #[.slice a 0 c] w (StdP [] w):=by
 have hB:=Blk.new w rcZ 167;have ga:Gr w (w.alloc (.cells rcZ 167)):=(Gr.refl w).alloc _;replace hB:=Lib.hid hB;go_enter Tryz.func153,Tryz.ntmps153;go_wp2_with fail;refine bodyPost_ret (v:=.tuple #[.agg rcZ,.int .i64 0,.bool false]) ?_ rfl ⟨ga,rfl⟩;exact (res_cell3 (b:=w.heap.size) (t:=167) Tryz.results153 _ _ hB.out rfl Tryz.underlying167 (by kernel_rfl)).trans rfl
set_option maxRecDepth 100000 in
set_option maxHeartbeats 3200000 in
theorem stands_first (w:World) (b off n c:Nat) (x:Nat × List UInt8) (T:List (Nat × List UInt8)) (hn:T.length = n) (h:SecsAt w (some ⟨b,off,none⟩) (x :: T)) (hx:x.2.head? ≠ some 1) :
 Calls Tryz.prog 153 #[.slice (some ⟨b,off,none⟩) (n + 1) c] w (StdP ((x :: T).map (·.2)) w):=by
 obtain ⟨wA,hwA⟩:∃ wA,wA = w.alloc (.cells rcZ 167):=⟨_,rfl⟩
 have ga:Gr w wA:=by rw [hwA];exact (Gr.refl w).alloc _
 have fin:Gr w ((((wA.setCell ⟨w.heap.size,0,none⟩ (.int .i64 0)).setCell ⟨w.heap.size,1,none⟩ (.int .i64 0)).setCell ⟨w.heap.size,2,none⟩ (.int .i64 0)).setCell ⟨w.heap.size,3,none⟩ (.slice none 0 0)):=ga.set4 (Nat.le_refl _) _ _ _ _;have hst:standF ((x :: T).map (·.2)) = none:=stands_no hx;obtain ⟨hbl,hc⟩:=(h.gr ga).cell (i:=0) rfl;obtain ⟨hxb,hxl⟩:=(h.gr ga).b x List.mem_cons_self;obtain ⟨d,hd,hdh⟩:=head_of hxl;obtain ⟨hxz,hxc⟩:=hxb.at' hd;have hd1:((d.toNat:Int) != 1) = true:=by
  have:d ≠ 1:=fun e => hx (by rw [hdh,e])
  have h2:d.toNat ≠ 1:=fun e => this (by rw [← UInt8.toNat_inj,e];rfl)
  simp only [bne_iff_ne,ne_eq];omega
 have hn1:((n:Int) + 1 == 0) = false:=beq_eq_false_iff_ne.2 (by omega);have hB:Blk wA w.heap.size rcZ 167:=by rw [hwA];exact Blk.new w rcZ 167
 have f0:=hB.free 0;have f1:=hB.free 1;have f2:=hB.free 2;have f3:=hB.free 3;have c0:=hB.cell (i:=0) (v:=.int .i64 0) rfl;have c1:=hB.cell (i:=1) (v:=.int .i64 0) rfl;have c2:=hB.cell (i:=2) (v:=.int .i64 0) rfl;have c3:=hB.cell (i:=3) (v:=.slice none 0 0) rfl;have zB:=hB.lt;replace fin:=Lib.hid fin;replace hB:=Lib.hid hB;replace h:=Lib.hid h;replace hst:=Lib.hid hst;replace hxb:=Lib.hid hxb;replace hd:=Lib.hid hd;replace hdh:=Lib.hid hdh;replace hn:=Lib.hid hn;replace hwA:=Lib.hid hwA;simp only [Nat.add_zero] at hc hxc;go_enter Tryz.func153,Tryz.ntmps153;go_upto_region 1 with fail
 rw [← hwA.out];go_wp2_with fail;refine bodyPost_ret (v:=.tuple #[.agg rcZ,.int .i64 0,.bool false]) ?_ rfl ⟨fin.out,by rw [hst.out]⟩;exact (res_cell3 (b:=w.heap.size) (t:=167) Tryz.results153 _ _ (hB.out.set4 rfl _ _ _ _) rfl Tryz.underlying167 (by kernel_rfl)).trans rfl
end Go.Proofs.YteigofaccjaobaaGreatDoor
