/- tree.orders: a map of functions. -/
import Derived.Test.YtdfelohjdkcpkaaGreatDoorK11
import Derived.Maps.Own
import Derived.MapKept
import Derived.WideMake
import Derived.Laws.CopyRow
import Derived.Deep.RegionHeld3
import Derived.StillTail
import Derived.Test.YtdfelohjdkcpkaaGreatDoorK9
namespace Go.Proofs.YtdfelohjdkcpkaaGreatDoor
open Go.RowKit
open Go.Maps (Keyed)
theorem Tryz.keyedInt:Keyed Tryz.prog 3:=Maps.int_keyed Tryz.underlying3
theorem int_wf {k:Int} (h:-9223372036854775808≤k∧k≤9223372036854775807):(Lit.int .i64 k).wf = true:=by
 simp [Lit.wf,IntKind.min,IntKind.max,IntKind.signed,IntKind.bits];exact ⟨h.1,by have:=h.2;omega⟩
theorem key_int {k:Int} (h:-9223372036854775808≤k∧k≤9223372036854775807):keyOf Tryz.prog 3 (.int .i64 k) = some (.int .i64 k):=Maps.keyOf_int_mk Tryz.underlying3 (int_wf h)
theorem push_set (a:Array Obj) (o o':Obj):(a.push o).setIfInBounds a.size o' = a.push o':=by
 apply Array.ext
 ·simp
 ·intro i h1 h2;rw [Array.getElem_setIfInBounds (by simpa using h1)];by_cases hi:a.size = i
  ·subst hi;simp
  ·rw [if_neg hi];simp at h2;rw [Array.getElem_push_lt (by omega),Array.getElem_push_lt (by omega)]
theorem run_put (w:World) (es:Array MapEntry) (clock:Nat) (k:Int) (v:Value) (hk:-9223372036854775808≤k∧k≤9223372036854775807) (hes:∀ e ∈ es.toList,∃ l,keyOf Tryz.prog 3 e.key = some l) (hne:∀ e ∈ es.toList,e.key ≠ .int .i64 k) :
 (Instr.mapUpdate 111 (.map (some w.heap.size)) (.int .i64 k) v).run Tryz.prog (w.alloc (.map es clock)) = .ok () (w.alloc (.map (es.push ⟨.int .i64 k,v,clock⟩) (clock + 1))):=by
 have hb:(w.alloc (.map es clock)).heap[w.heap.size]? = some (.map es clock):=heap_alloc_new w _;rcases Tryz.keyedInt.find (w.alloc (.map es clock)) (key_int hk) es.toList hes with ⟨h1,-⟩ | ⟨j,e,-,h2,h3⟩
 ·simp [Instr.mapUpdate,run_underlying Tryz.underlying111,Go.MapKept.run_getObj_map hb,Tryz.keyedInt.check _ false (key_int hk),h1,Go.MapKept.run_setObj_map _ hb,Result.andThen];have ha:∀ o:Obj,w.alloc o = {w with heap:=w.heap.push o}:=fun _ => rfl
  rw [ha,ha];rw [push_set]
 ·exact absurd h3 (hne e (List.mem_of_getElem? h2))
abbrev ordsE:Array MapEntry:=#[⟨.int .i64 1,.func (.func 93) #[] #[],0⟩,⟨.int .i64 2,.func (.func 94) #[] #[],1⟩,⟨.int .i64 3,.func (.func 95) #[] #[],2⟩,⟨.int .i64 4,.func (.func 96) #[] #[],3⟩]
set_option maxRecDepth 100000 in
theorem orders_any (w:World):Calls Tryz.prog 44 #[] w fun e w' => e = .returned (.map (some w.heap.size))∧w' = w.alloc (.map ordsE 4):=by
 have hmm:=@run_makeMap_plain;have p1:=run_put w #[] 0 1 (.func (.func 93) #[] #[]) (by omega) (by simp) (by simp);have p2:=run_put w (Array.push #[] ⟨.int .i64 1,.func (.func 93) #[] #[],0⟩) 1 2 (.func (.func 94) #[] #[]) (by omega) (by simp;exact ⟨_,key_int (by omega)⟩) (by simp);have p3:=run_put w (Array.push (Array.push #[] ⟨.int .i64 1,.func (.func 93) #[] #[],0⟩) ⟨.int .i64 2,.func (.func 94) #[] #[],1⟩) 2 3 (.func (.func 95) #[] #[]) (by omega) (by simp;exact ⟨⟨_,key_int (by omega)⟩,⟨_,key_int (by omega)⟩⟩) (by simp);have p4:=run_put w (Array.push (Array.push (Array.push #[] ⟨.int .i64 1,.func (.func 93) #[] #[],0⟩) ⟨.int .i64 2,.func (.func 94) #[] #[],1⟩) ⟨.int .i64 3,.func (.func 95) #[] #[],2⟩) 3 4 (.func (.func 96) #[] #[]) (by omega) (by simp;exact ⟨⟨_,key_int (by omega)⟩,⟨_,key_int (by omega)⟩,⟨_,key_int (by omega)⟩⟩) (by simp);simp only [List.push_toArray,List.nil_append,List.cons_append,Nat.reduceAdd] at p1 p2 p3 p4;go_enter Tryz.func44,Tryz.ntmps44;go_wp2_with fail;go_ret;exact ⟨rfl,rfl⟩
def ordF (k:Int):Option Nat:=if k = 1 then some 93 else if k = 2 then some 94 else if k = 3 then some 95 else if k = 4 then some 96 else none
theorem zero_fn (w:World):∃ z,(zeroValue 109).run Tryz.prog w = .ok z w:=⟨.nilFunc,by kernel_rfl⟩
theorem run_look (w:World) (b:Nat) (hb:w.heap[b]? = some (.map ordsE 4)) (k:Int) (hk:-9223372036854775808≤k∧k≤9223372036854775807) :
 ∃ z,(Instr.lookup 111 (.map (some b)) (.int .i64 k) true).run Tryz.prog w = .ok (.tuple #[match ordF k with | some f => .func (.func f) #[] #[] | none => z,.bool (ordF k).isSome]) w:=by
 obtain ⟨z,hz⟩:=zero_fn w;refine ⟨z,?_⟩;have hes:∀ e ∈ ordsE.toList,∃ l,keyOf Tryz.prog 3 e.key = some l:=by
  intro e he;simp at he;rcases he with rfl | rfl | rfl | rfl <;> exact ⟨_,key_int (by omega)⟩
 rcases Tryz.keyedInt.find w (key_int hk) ordsE.toList hes with ⟨h1,h4⟩ | ⟨j,e,h1,h2,h3⟩
 ·have n1:k ≠ 1:=fun h => h4 ⟨.int .i64 1,.func (.func 93) #[] #[],0⟩ (by simp) (by rw [h])
  have n2:k ≠ 2:=fun h => h4 ⟨.int .i64 2,.func (.func 94) #[] #[],1⟩ (by simp) (by rw [h])
  have n3:k ≠ 3:=fun h => h4 ⟨.int .i64 3,.func (.func 95) #[] #[],2⟩ (by simp) (by rw [h])
  have n4:k ≠ 4:=fun h => h4 ⟨.int .i64 4,.func (.func 96) #[] #[],3⟩ (by simp) (by rw [h])
  have ho:ordF k = none:=by unfold ordF;rw [if_neg n1,if_neg n2,if_neg n3,if_neg n4]
  rw [ho];simp [Instr.lookup,run_underlying Tryz.underlying111,Go.MapKept.run_getObj_map hb,Tryz.keyedInt.check w false (key_int hk),h1,hz,Result.andThen]
 ·have hcase:ordF k = some (match e.val with | .func (.func f) _ _ => f | _ => 0)∧e.val = .func (.func (match e.val with | .func (.func f) _ _ => f | _ => 0)) #[] #[]:=by
   have he:=List.mem_of_getElem? h2;simp at he;rcases he with rfl | rfl | rfl | rfl <;> (simp at h3;subst h3;exact ⟨rfl,rfl⟩)
  rw [hcase.1];simp [Instr.lookup,run_underlying Tryz.underlying111,Go.MapKept.run_getObj_map hb,Tryz.keyedInt.check w false (key_int hk),h1,Result.andThen];exact hcase.2
end Go.Proofs.YtdfelohjdkcpkaaGreatDoor
namespace Go.Proofs.YtdfelohjdkcpkaaGreatDoor
open Go.RowKit
theorem owns_set {w:World} {B:Nat} {e:TypeId} {k g n c:Nat} {xs:List Value} (h:w.ownsRow B e k (.slice (some ⟨g,0,none⟩) n c) n xs) (q:Nat) (v:Value):(w.setCell ⟨g,q,none⟩ v).ownsRow B e k (.slice (some ⟨g,0,none⟩) n c) n (xs.set q v):=by
 refine ⟨by rw [List.length_set];exact h.1,?_⟩;rcases h.2 with ⟨h1,_⟩ | ⟨g',cap,cur,h1,h2,h3,h4,h5,h6,h7⟩
 ·cases h1
 ·cases h1
  refine .inr ⟨g,c,cur.setIfInBounds q v,rfl,h2,heap_setCell_same w g q cur e v h3,h4,h5,by simp [h6],?_⟩;rw [Array.toList_setIfInBounds,← h7,List.take_set]
def wrL:List Value→Nat→List Value→List Value
 | xs,_,[] => xs
 | xs,p,v :: vs => wrL (xs.set p v) (p + 1) vs
theorem wrL_mid:∀ (vs A ys B:List Value),ys.length = vs.length→wrL (A ++ ys ++ B) A.length vs = A ++ vs ++ B:=by
 intro vs;induction vs with
 | nil => intro A ys B h;cases ys with
  | nil => rfl
  | cons y t => cases h
 | cons v vs ih =>
  intro A ys B h;cases ys with
  | nil => cases h
  | cons y t =>
   unfold wrL;have h1:(A ++ y :: t ++ B).set A.length v = (A ++ [v]) ++ t ++ B:=by simp
   rw [h1];have h2:=ih (A ++ [v]) t B (by simpa using h);rw [List.length_append] at h2;rw [show A.length + 1 = A.length + [v].length from rfl,h2];simp
theorem wrL_rec {α:Type} {k:Nat} {enc:α→List Value} (hk:∀ s,(enc s).length = k) (M:List α) (i:Nat) (x:α) (hi:i < M.length):wrL (M.flatMap enc) (i * k) (enc x) = (M.set i x).flatMap enc:=by
 obtain ⟨y,hy⟩:=get_some M i hi;have h1:M = M.take i ++ y :: M.drop (i + 1):=by
  obtain ⟨h3,h4⟩:=List.getElem?_eq_some_iff.1 hy;rw [← h4,← List.drop_eq_getElem_cons h3,List.take_append_drop]
 have hl:(M.take i).length = i:=by simp;omega
 have hA:((M.take i).flatMap enc).length = i * k:=by
  have:∀ l:List α,(l.flatMap enc).length = l.length * k:=by
   intro l;induction l with
   | nil => simp
   | cons a t ih => rw [List.flatMap_cons,List.length_append,ih,hk,List.length_cons,Nat.succ_mul];omega
  rw [this,hl]
 have h2:M.flatMap enc = (M.take i).flatMap enc ++ enc y ++ (M.drop (i + 1)).flatMap enc:=by
  conv => lhs;rw [h1]
  rw [List.flatMap_append,List.flatMap_cons,List.append_assoc]
 have h3:M.set i x = M.take i ++ x :: M.drop (i + 1):=by
  conv => lhs;rw [h1]
  rw [List.set_append,if_neg (by omega),hl,Nat.sub_self];rfl
 rw [h2,← hA,wrL_mid _ _ _ _ (by rw [hk,hk]),h3,List.flatMap_append,List.flatMap_cons,List.append_assoc]
theorem owns_cut {w:World} {B:Nat} {e:TypeId} {k n n' c:Nat} {a:Option Addr} {xs:List Value} (h:w.ownsRow B e k (.slice a n c) n xs) (hn:n'≤n) (ha:a = none→n' = 0→c = 0):w.ownsRow B e k (.slice a n' c) n' (xs.take (n' * k)):=by
 refine ⟨by rw [List.length_take,h.1];have:=Nat.mul_le_mul_right k hn;omega,?_⟩;rcases h.2 with ⟨h1,h2⟩ | ⟨g',cap,cur,h1,h2,h3,h4,h5,h6,h7⟩
 ·cases h1
  obtain rfl:n' = 0:=by omega
  exact .inl ⟨rfl,rfl⟩
 ·cases h1
  refine .inr ⟨g',c,cur,rfl,h2,h3,by omega,h5,h6,?_⟩;rw [← h7,List.take_take,Nat.min_eq_left (Nat.mul_le_mul_right k hn)]
theorem owns_clear {w:World} {B:Nat} {e t:TypeId} {k g n c:Nat} {xs:List Value} {z:Value} (ht:Tryz.prog.underlying t = some (.slice e)) (hz:∀ w,(zeroValue e).run Tryz.prog w = .ok z w) (hzk:z.cells.size = k) (hz1:∀ u ∈ z.cells,u.oneCell' = true) (h:w.ownsRow B e k (.slice (some ⟨g,0,none⟩) n c) n xs) {i:Nat} (hi:i≤n) (hk:0 < k) :
 ∃ w',(∀ ty c',(Builtin.clear_ #[t] ty #[.slice (some ⟨g,i * k,none⟩) (n - i) c']).run Tryz.prog w = .ok (.tuple #[]) w')∧w'.ownsRow B e k (.slice (some ⟨g,0,none⟩) i c) i (xs.take (i * k))∧GrX [g] w w':=by
 rcases Nat.eq_or_lt_of_le hi with rfl | hlt
 ·refine ⟨w,fun ty c' => ?_,owns_cut h (Nat.le_refl _) (fun h => by cases h),GrX.refl _ _⟩;rw [Nat.sub_self];simp [Builtin.clear_,run_underlying ht]
 ·rcases h.2 with ⟨h1,_⟩ | ⟨g',cap,cur,h1,h2,h3,h4,h5,h6,h7⟩
  ·cases h1
  ·cases h1
   obtain ⟨vs,hvs⟩:∃ vs,vs = (Builtin.zeroCells z.cells (n - i)).toList:=⟨_,rfl⟩
   have hvl:vs.length = (n - i) * k:=by rw [hvs];simp only [Builtin.zeroCells,Array.length_toList,Array.size_map,Array.size_range,hzk]
   have hmul:i * k + (n - i) * k = n * k:=by rw [← Nat.add_mul,show i + (n - i) = n from by omega]
   have hnc:n * k≤c * k:=Nat.mul_le_mul_right k h4;have hv1:∀ v ∈ vs,v.oneCell' = true:=by
    intro v hv;rw [hvs] at hv;simp [Builtin.zeroCells] at hv;obtain ⟨j,hj,rfl⟩:=hv;have hpos:j % z.cells.size < z.cells.size:=Nat.mod_lt _ (by omega);rw [Array.getElem!_eq_getD,Array.getD_eq_getD_getElem?,Array.getElem?_eq_getElem hpos];exact hz1 _ (Array.getElem_mem _)
   have hst:=run_storeCells_at (P:=Tryz.prog) g (i * k) e vs 0 cur w h3 (by omega) hv1;rw [Nat.add_zero] at hst;refine ⟨w.setRow g (cur.toList.take (i * k) ++ vs ++ cur.toList.drop (i * k + vs.length)).toArray,fun ty c' => ?_,?_,?_⟩
   ·obtain ⟨m,hm⟩:∃ m,n - i = m + 1:=⟨n - i - 1,by omega⟩
    rw [hm] at hvs ⊢;simp [Builtin.clear_,run_underlying ht,hz,← hvs,hst]
   ·refine ⟨by rw [List.length_take,h.1];omega,.inr ⟨g,c,_,rfl,h2,setRow_heap w g cur _ e (0,0) h3,by omega,h5,?_,?_⟩⟩
    ·simp only [List.size_toArray,List.length_append,List.length_take,List.length_drop,Array.length_toList,h6,hvl];omega
    ·rw [List.append_assoc,List.take_append_of_le_length (by rw [List.length_take,Array.length_toList,h6];omega),List.take_take,Nat.min_self,← h7,List.take_take,Nat.min_eq_left (by omega)]
   ·exact ⟨rfl,rfl,rfl,by simp,fun b _ hb => setRow_other w g b _ (by simpa using hb)⟩
end Go.Proofs.YtdfelohjdkcpkaaGreatDoor
namespace Go.Proofs.YtdfelohjdkcpkaaGreatDoor
open Go.RowKit
abbrev keepG (now:Int) (g:Gh):Bool:=decide (now < g.till)
theorem over_any (g:Gh) (now:Int) (tb:Nat) (w:World) (hb:tb < w.heap.size) (h:w.cell? ⟨tb,3,none⟩ = some (.int .i64 now)) :
 Calls Tryz.prog 47 #[.agg #[.int .i64 g.par,.int .i64 g.srv.k,.int .i64 g.srv.q,.int .i64 g.srv.t,.int .i64 g.till],.pointer (some ⟨tb,0,none⟩)] w fun e w' => e = .returned (.bool (!keepG now g))∧Gr w w':=by
 have e1:(!keepG now g) = decide (g.till≤now):=by
  unfold keepG;by_cases h1:now < g.till
  ·rw [decide_eq_true h1,decide_eq_false (by omega)];rfl
  ·rw [decide_eq_false h1,decide_eq_true (by omega)];rfl
 rw [e1];have hc:(w.alloc (.cells #[.int .i64 g.par,.int .i64 g.srv.k,.int .i64 g.srv.q,.int .i64 g.srv.t,.int .i64 g.till] 43)).cell? ⟨tb,3,none⟩ = some (.int .i64 now):=(((Gr.refl w).alloc _).cells.1 _ _ hb).trans h;clear e1;go_enter Tryz.func47,Tryz.ntmps47;go_wp2_with fail;go_ret;exact ⟨rfl,(Gr.refl w).alloc _⟩
def FirstP (now:Int) (L:List Gh) (w:World) (e:Ending) (w':World):Prop:=Gr w w'∧((e = .returned (.int .i64 (-1))∧∀ g ∈ L,keepG now g = true) ∨ ∃ (i:Nat) (x:Gh),e = .returned (.int .i64 i)∧L[i]? = some x∧keepG now x = false∧∀ g ∈ L.take i,keepG now g = true)
set_option maxRecDepth 100000 in
set_option maxHeartbeats 1600000 in
theorem first_any (ag:Option Addr) (cg:Nat) (L:List Gh) (now:Int) (tb:Nat) (w:World) (hr:RecsIn Any 5 Gh.cells w ag L) (hl:L.length≤1000000) (hb:tb < w.heap.size) (h:w.cell? ⟨tb,3,none⟩ = some (.int .i64 now)) :
 Calls Tryz.prog 97 #[.slice ag L.length cg,.func (.func 47) #[] #[.pointer (some ⟨tb,0,none⟩)]] w (FirstP now L w):=by
 replace hr:=Lib.hid hr;go_enter Tryz.func97,Tryz.ntmps97;go_wp2_with fail;go_loopw [8] (fun iv wr => ∃ k:Nat,k≤L.length∧iv = .int .i64 k∧Hid (∀ g ∈ L.take k,keepG now g = true)∧Gr w wr) (fun iv _ => L.length - (intOf iv).toNat);case atStart => exact ⟨0,Nat.zero_le _,rfl,Lib.hid (by simp),Gr.refl _⟩
 case round =>
  obtain ⟨k,hk,rfl,hkp,hg⟩:=hrel;by_cases hlt:k < L.length
  ·obtain ⟨x,hx⟩:=get_some L k hlt;obtain ⟨b,off,hab,hbl,-,c0,c1,c2,c3,c4⟩:=gh_get (hr.out.grx (hg.x []) (fun _ h => by cases h)) hx;subst hab;have tk:(k:Int) < L.length:=by omega
   have hov:=over_any x now tb wr (by have:=hg.size;omega) ((hg.cells.1 _ _ hb).trans h);replace hx:=Lib.hid hx;cases hc:keepG now x with
   | true =>
    rw [hc] at hov;replace hov:=Lib.hid hov;replace hc:=Lib.hid hc;go_wp2_with fail;refine hov.out.mono ?_;rintro e w2 ⟨rfl,g2⟩;go_wp2_with fail;go_roundw;case rel => exact ⟨k + 1,by omega,by go_num,Lib.hid (fun g hgm => by
     rw [take_snoc hx.out] at hgm;rcases List.mem_append.1 hgm with h1 | h1
     ·exact hkp.out g h1
     ·rw [List.mem_singleton.1 h1];exact hc.out),hg.trans g2⟩
    case measure => simp [intOf];omega
   | false =>
    rw [hc] at hov;replace hov:=Lib.hid hov;replace hc:=Lib.hid hc;go_wp2_with fail;refine hov.out.mono ?_;rintro e w2 ⟨rfl,g2⟩;go_wp2_with fail;go_ret;exact ⟨hg.trans g2,.inr ⟨k,x,rfl,hx.out,hc.out,hkp.out⟩⟩
  ·have hkn:k = L.length:=by omega
   have tk:¬ (k:Int) < L.length:=by omega
   have tkb:decide ((k:Int) < L.length) = false:=decide_eq_false tk;replace hkn:=Lib.hid hkn;go_wp2_with fail;go_ret;exact ⟨hg,.inl ⟨rfl,fun g hgm => hkp.out g (by rw [hkn.out,List.take_length];exact hgm)⟩⟩
theorem flat_take {α:Type} {k:Nat} {enc:α→List Value} (hk:∀ s,(enc s).length = k) (M:List α) (i:Nat):(M.flatMap enc).take (i * k) = (M.take i).flatMap enc:=by
 induction M generalizing i with
 | nil => simp
 | cons a t ih =>
  cases i with
  | zero => simp
  | succ i =>
   rw [List.flatMap_cons,List.take_succ_cons,List.flatMap_cons,Nat.succ_mul,Nat.add_comm,← hk a,List.take_length_add_append];rw [hk a,ih]
end Go.Proofs.YtdfelohjdkcpkaaGreatDoor
namespace Go.Proofs.YtdfelohjdkcpkaaGreatDoor
open Go.RowKit
def LeftP (B:Nat) (now:Int) (ag:Option Addr) (cg:Nat) (L:List Gh) (w:World) (e:Ending) (w':World):Prop:=e = .returned (.slice ag (L.filter (keepG now)).length cg)∧w'.ownsRow B 43 5 (.slice ag (L.filter (keepG now)).length cg) (L.filter (keepG now)).length ((L.filter (keepG now)).flatMap Gh.cells)∧GrX (ag.map (·.block)).toList w w'
theorem filter_all {α:Type} {p:α→Bool} {l:List α} (h:∀ x ∈ l,p x = true):l.filter p = l:=List.filter_eq_self.2 h
set_option maxRecDepth 100000 in
set_option maxHeartbeats 3200000 in
theorem left_any (B:Nat) (ag:Option Addr) (cg:Nat) (L:List Gh) (now:Int) (tb:Nat) (w:World) (hr:w.ownsRow B 43 5 (.slice ag L.length cg) L.length (L.flatMap Gh.cells)) (hl:L.length≤1000000) (hb:tb < w.heap.size) (hne:(Value.slice ag L.length cg).ownBlock ≠ some tb) (h:w.cell? ⟨tb,3,none⟩ = some (.int .i64 now)) :
 Calls Tryz.prog 46 #[.slice ag L.length cg,.func (.func 47) #[] #[.pointer (some ⟨tb,0,none⟩)]] w (LeftP B now ag cg L w):=by
 obtain ⟨a1,c1,e1,r1,n1,b1⟩:=recs_of_owns Gh.cells_len hr;injection e1 with p1 _ p3
 subst p1 p3;have hfi:=first_any ag cg L now tb w ⟨r1,fun _ _ _ => trivial⟩ hl hb h;obtain ⟨F,hF⟩:∃ F,F = L.filter (keepG now):=⟨_,rfl⟩
 have hFl:F.length≤L.length:=by rw [hF];exact List.length_filter_le _ _
 replace hfi:=Lib.hid hfi;replace hr:=Lib.hid hr;replace hF:=Lib.hid hF;clear r1 b1;go_enter Tryz.func46,Tryz.ntmps46;go_wp2_with fail;refine hfi.out.mono ?_;rintro e w1 ⟨g1,⟨rfl,hall⟩ | ⟨i0,x0,rfl,hx0,hk0,hbef⟩⟩
 ·have hFL:L.filter (keepG now) = L:=filter_all hall;replace hFL:=Lib.hid hFL;clear hall;go_wp2_with fail;go_ret;refine ⟨by rw [hFL.out];rfl,?_,g1.x _⟩;rw [hFL.out];exact owns_gr hr.out g1
 ·have hi0:=get_lt hx0;obtain ⟨g,hag⟩:∃ g,ag = some ⟨g,0,none⟩:=by
   rcases hr.out.2 with ⟨h1,h2⟩ | ⟨g,cap,cur,h1,_⟩
   ·omega
   ·injection h1 with h1;exact ⟨g,h1⟩
  subst hag;have hgt:g ≠ tb:=fun e => hne (by rw [e];rfl)
  have hst:(L.take (i0 + 1)).filter (keepG now) = L.take i0:=by
   rw [take_snoc hx0,List.filter_append,filter_all hbef];simp [hk0]
  have hz1:=g1.size;have t0:((i0:Int) == -1) = false:=beq_eq_false_iff_ne.2 (by omega);replace hx0:=Lib.hid hx0;replace hk0:=Lib.hid hk0;replace hbef:=Lib.hid hbef;replace hst:=Lib.hid hst;go_wp2_with fail;go_loopw [5,6] (fun iv jv wr => ∃ (i j:Nat) (M:List Gh),i < j∧j≤L.length∧iv = .int .i64 i∧jv = .int .i64 j∧Hid (M.length = L.length∧M.take i = (L.take j).filter (keepG now)∧M.drop j = L.drop j∧wr.ownsRow B 43 5 (.slice (some ⟨g,0,none⟩) L.length cg) M.length (M.flatMap Gh.cells))∧GrX [g] w wr) (fun _ jv _ => L.length - (intOf jv).toNat);case atStart => exact ⟨i0,i0 + 1,L,by omega,by omega,rfl,by go_num,Lib.hid ⟨rfl,hst.out.symm,rfl,owns_gr hr.out g1⟩,g1.x _⟩
  case round =>
   obtain ⟨i,j,M,hij,hj,rfl,rfl,hI,hg⟩:=hrel;obtain ⟨hM,hT,hD,hO⟩:=hI.out;have hgz:=hg.size;by_cases hlt:j < L.length
   ·obtain ⟨x,hx⟩:=get_some L j hlt;have hxM:M[j]? = some x:=by
     have h1:(M.drop j)[0]? = (L.drop j)[0]?:=by rw [hD]
     rw [List.getElem?_drop,List.getElem?_drop] at h1;simpa [hx] using h1
    obtain ⟨a2,c2,e2,r2,n2,b2⟩:=recs_of_owns Gh.cells_len hO;rw [hM] at e2;cases e2
    obtain ⟨b3,off3,e3,hbl3,-,c0,c1,c2,c3,c4⟩:=gh_get (K:=Any) ⟨r2,fun _ _ _ => trivial⟩ hxM;cases e3
    have hc3:wr.cell? ⟨tb,3,none⟩ = some (.int .i64 now):=(hg.cell hb (by simpa using hgt.symm) 3).trans h;have g2:Gr wr (wr.alloc (.cells #[.int .i64 x.par,.int .i64 x.srv.k,.int .i64 x.srv.q,.int .i64 x.srv.t,.int .i64 x.till] 43)):=(Gr.refl wr).alloc _;have hov:=over_any x now tb _ (by have:=g2.size;omega) ((g2.cells.1 _ _ (by omega)).trans hc3);have tj:(j:Int) < L.length:=by omega
    simp only [Nat.zero_add] at c0 c1 c2 c3 c4;replace hx:=Lib.hid hx;replace hxM:=Lib.hid hxM;replace hT:=Lib.hid hT;replace hD:=Lib.hid hD;replace hM:=Lib.hid hM;replace hO:=Lib.hid hO;clear hI r2 b2;cases hc:keepG now x with
    | true =>
     rw [hc] at hov;obtain ⟨y,hy⟩:=get_some M i (by rw [hM.out];omega);replace hov:=Lib.hid hov;replace hc:=Lib.hid hc;go_wp2_with fail;refine hov.out.mono ?_;rintro e w2 ⟨rfl,g3⟩;have hO3:=owns_gr hO.out (g2.trans g3);obtain ⟨a4,c4',e4,r4,n4,b4⟩:=recs_of_owns Gh.cells_len hO3;injection e4 with q4 q5 q6
     subst q4 q6;clear q5;obtain ⟨b5,off5,e5,hbl5,-,d0,d1,d2,d3,d4⟩:=gh_get (K:=Any) ⟨r4,fun _ _ _ => trivial⟩ hy;cases e5
     simp only [Nat.zero_add] at d0 d1 d2 d3 d4;have ff:∀ o,w2.frozen? ⟨g,o,none⟩ = false:=fun o => by
      rcases hO3.2 with ⟨h1,_⟩ | ⟨g',cap,cur,h1,_,hh,_⟩
      ·cases h1
      ·injection h1 with h1 _ _;cases h1;simp [World.frozen?,hh]
     have hbx:=(Blk.new wr #[.int .i64 x.par,.int .i64 x.srv.k,.int .i64 x.srv.q,.int .i64 x.srv.t,.int .i64 x.till] 43).gr g3;have x0:=hbx.cell (i:=0) (v:=.int .i64 x.par) rfl;have x1:=hbx.cell (i:=1) (v:=.int .i64 x.srv.k) rfl;have x2:=hbx.cell (i:=2) (v:=.int .i64 x.srv.q) rfl;have x3:=hbx.cell (i:=3) (v:=.int .i64 x.srv.t) rfl;have x4:=hbx.cell (i:=4) (v:=.int .i64 x.till) rfl;have ti:(i:Int) < L.length:=by omega
     replace hy:=Lib.hid hy;replace hO3:=Lib.hid hO3;replace hbx:=Lib.hid hbx;clear r4 b4 c0 c1 c2 c3 c4;go_wp2_with fail;refine ⟨⟨i + 1,j + 1,M.set i x,by omega,by omega,by go_num,by go_num,Lib.hid ⟨by rw [List.length_set];exact hM.out,?_,?_,?_⟩,?_⟩,?_⟩
     ·rw [take_snoc hx.out,List.filter_append,← hT.out];have h1:(M.set i x)[i]? = some x:=by rw [List.getElem?_set_self (by have:=get_lt hy.out;omega)]
      rw [take_snoc h1,List.take_set_of_le (Nat.le_refl _)];simp [hc.out]
     ·rw [List.drop_set_of_lt (by omega),← List.drop_drop,← List.drop_drop,hD.out]
     ·rw [List.length_set,← wrL_rec Gh.cells_len M i x (by have:=get_lt hy.out;omega)];have q:=hO3.out;rw [hM.out] at q ⊢;exact owns_set (owns_set (owns_set (owns_set (owns_set q _ _) _ _) _ _) _ _) _ _
     ·have gg:GrX [g] w w2:=hg.gr (g2.trans g3);exact ((((gg.set (.inl (by simp)) _).set (.inl (by simp)) _).set (.inl (by simp)) _).set (.inl (by simp)) _).set (.inl (by simp)) _
     ·simp [intOf];omega
    | false =>
     rw [hc] at hov;replace hov:=Lib.hid hov;replace hc:=Lib.hid hc;go_wp2_with fail;refine hov.out.mono ?_;rintro e w2 ⟨rfl,g3⟩;go_wp2_with fail;go_roundw;case rel =>
      refine ⟨i,j + 1,M,by omega,by omega,rfl,by go_num,Lib.hid ⟨hM.out,?_,?_,owns_gr hO.out (g2.trans g3)⟩,hg.gr (g2.trans g3)⟩
      ·rw [take_snoc hx.out,List.filter_append,← hT.out];simp [hc.out]
      ·rw [← List.drop_drop,← List.drop_drop,hD.out]
     case measure => simp [intOf];omega
   ·have hjn:j = L.length:=by omega
    have tj:¬ (j:Int) < L.length:=by omega
    have tjb:decide ((j:Int) < L.length) = false:=decide_eq_false tj;have hTF:M.take i = F:=by rw [hT,hjn,List.take_length,hF.out]
    have hiF:F.length = i:=by rw [← hTF,List.length_take];omega
    have hO2:wr.ownsRow B 43 5 (.slice (some ⟨g,0,none⟩) L.length cg) L.length (M.flatMap Gh.cells):=by rw [hM] at hO;exact hO
    have hcg:=owns_cap hO2 rfl;obtain ⟨w9,hrun,hO9,gx9⟩:=owns_clear (z:=.agg #[.int .i64 0,.int .i64 0,.int .i64 0,.int .i64 0,.int .i64 0]) Tryz.underlying25 (fun w => by kernel_rfl) (by rfl) (by simp [Value.cells,Value.oneCell']) hO2 (i:=i) (by omega) (by decide);rw [flat_take Gh.cells_len,hTF] at hO9;replace hTF:=Lib.hid hTF;replace hiF:=Lib.hid hiF;replace hT:=Lib.hid hT;replace hD:=Lib.hid hD;replace hM:=Lib.hid hM;replace hO:=Lib.hid hO;replace hO2:=Lib.hid hO2;replace hO9:=Lib.hid hO9;replace hjn:=Lib.hid hjn;clear hI;have ti1:(i:Int)≤L.length:=by omega
    have ti2:(i:Int)≤cg:=by omega
    go_wp2_with fail;go_ret;refine ⟨by rw [← hF.out,hiF.out];rfl,?_,hg.trans gx9⟩;rw [← hF.out,hiF.out];rw [← hF.out] at *;exact hO9.out
end Go.Proofs.YtdfelohjdkcpkaaGreatDoor
namespace Go.Proofs.YtdfelohjdkcpkaaGreatDoor
section
variable {P:Program} {ops:Array Oper} {Q:Exit→Act→World→Prop} {md:Region.Mode} {S:World→Prop}
def wpAnyZ (P:Program) (md:Region.Mode) (ops:Array Oper) (Q:Exit→Act→World→Prop) (S:World→Prop) (z:Nat):Nat→Array Bool→Act→World→Prop
 | 0,listed,a,w => Region.ready md ops listed = []∧Q .normal a w
 | fuel + 1,listed,a,w =>
  (Region.ready md ops listed = []→Q .normal a w) ∧
  ∀ i ∈ Region.ready md ops listed,wpOp P ops Q i (fun a' w' => (i ≠ z→S w')∧wpAnyZ P md ops Q S z fuel (listed.setIfInBounds i true) a' w') a w
theorem wpAny_of_Z {z:Nat}:∀ (fuel:Nat) (listed:Array Bool) (a:Act) (w:World),wpAnyZ P md ops Q S z fuel listed a w→wpAny P md ops Q fuel listed a w
 | 0,_,_,_,h => h
 | fuel + 1,_,_,_,h => ⟨h.1,fun i hi => wpOp_mono (fun a' w' h' => wpAny_of_Z fuel _ a' w' h'.2) (h.2 i hi)⟩
theorem wpAnyZ_first {z i:Nat} {oi:Oper} {v:Value} (hi:ops[i]? = some oi) (hsel:∀ (j:Nat) (o:Oper) cs b,ops[j]? = some o→o.op ≠ .select cs b)
 (hQ:∀ c a w,Q (.panic c) (a.put oi.dst v) w→Q (.panic c) a w) (hz:Region.waitsFor md ops z i = true) :
 ∀ (fuel:Nat) (listed:Array Bool) (a:Act) (w:World),
  (∀ j oj,ops[j]? = some oj→j ≠ i→listed.getD j true = false→(∀ e ∈ oj.after,Region.binds md e = true→e.on ≠ i)→oi.apart ops oj = true) →
  i ∈ Region.ready md ops listed→YieldsIf P ops S oi v a→S w →
  wpAnyZ P md ops Q S z fuel (listed.setIfInBounds i true) (a.put oi.dst v) w→wpAnyZ P md ops Q S z (fuel + 1) listed a w:=by
 intro fuel;induction fuel with
 | zero =>
  intro listed a w _ hr hy hS H;refine ⟨fun h => (by rw [h] at hr;cases hr),fun j hj => ?_⟩;by_cases hji:j = i
  ·subst hji;exact hy.wpOp hi hS ⟨fun _ => hS,H⟩
  ·have:=ready_mono hj hji;rw [H.1] at this;cases this
 | succ fuel ih =>
  intro listed a w hfree hr hy hS H;refine ⟨fun h => (by rw [h] at hr;cases hr),fun j hj => ?_⟩;by_cases hji:j = i
  ·subst hji;exact hy.wpOp hi hS ⟨fun _ => hS,H⟩
  ·have h1:=H.2 j (ready_mono hj hji);obtain ⟨hjun,oj,hoj,hall⟩:=mem_ready.1 hj;have hnot:∀ e ∈ oj.after,Region.binds md e = true→e.on ≠ i:=fun e he hb heq => by
    have h1:=hall e he hb;have h0:=(mem_ready.1 hr).1;rw [heq] at h1;rcases Nat.lt_or_ge i listed.size with h' | h'
    ·simp [h'] at h0 h1;rw [h0] at h1;cases h1
    ·simp [Array.getElem?_eq_none h'] at h1
   have hjz:j ≠ z:=fun e => by
    subst e;obtain ⟨oz,hoz,e,he,hb,hon⟩:=Region.waitsFor_spec hz;have:oz = oj:=Option.some.inj (hoz.symm.trans hoj);subst this;exact hnot e he hb hon
   have h2:=wpOp_putIf hoj (hfree j oj hoj hji hjun hnot) (fun cs b => hsel i oi cs b hi) (fun cs b => hsel j oj cs b hoj) hQ hy h1;have hfree':∀ k ok,ops[k]? = some ok→k ≠ i→(listed.setIfInBounds j true).getD k true = false →
    (∀ e ∈ ok.after,Region.binds md e = true→e.on ≠ i)→oi.apart ops ok = true:=fun k ok hk hki hun hno => by
    refine hfree k ok hk hki ?_ hno;by_cases hjk:j = k
    ·subst hjk;exact hjun
    ·rw [getD_set_ne true hjk] at hun;exact hun
   refine wpOp_mono (fun a' w' h3 => ⟨h3.2.1,ih (listed.setIfInBounds j true) a' w' hfree' (ready_mono hr (Ne.symm hji)) h3.1 (h3.2.1 hjz) ?_⟩) h2;rw [Array.setIfInBounds_comm _ _ hji];exact h3.2.2
theorem wpAnyZ_take {z i:Nat} {oi:Oper} {v:Value} {fuel:Nat} {listed:Array Bool} {a:Act} {w:World} (hi:ops[i]? = some oi)
 (hs:Region.noSelect ops = true) (hf:Region.free md ops listed i = true) (hr:(Region.ready md ops listed).contains i = true) (hz:Region.waitsFor md ops z i = true)
 (hQ:∀ c a w,Q (.panic c) (a.put oi.dst v) w→Q (.panic c) a w) (hw:Region.wanted oi (yielded ops a.tmps) = true) (hy:∀ w,S w→(execOp a.eval oi).run P w = .ok (.value v) w) (hS:S w)
 (h:wpAnyZ P md ops Q S z fuel (listed.setIfInBounds i true) (a.put oi.dst v) w):wpAnyZ P md ops Q S z (fuel + 1) listed a w :=
 wpAnyZ_first hi (Region.noSelect_spec hs) hQ hz fuel listed a w (Region.free_spec hi hf) (by simpa using hr) (.inl ⟨hw,hy⟩) hS h
theorem wpAnyZ_one {z i:Nat} {o:Oper} {fuel:Nat} {listed:Array Bool} {a:Act} {w:World} (hr:Region.ready md ops listed = [i]) (ho:ops[i]? = some o)
 (h:∀ K':Act→World→Prop,Shut (∀ a w,(i ≠ z→S w)→wpAnyZ P md ops Q S z fuel (listed.setIfInBounds i true) a w→K' a w)→if Region.wanted o (yielded ops a.tmps) = true then Oper.wp P o a w K' Q else K' (a.put o.dst undef) w):wpAnyZ P md ops Q S z (fuel + 1) listed a w :=
 ⟨fun h0 => absurd (hr ▸ h0) (by simp),fun j hj => by
  rw [hr] at hj;obtain rfl:j = i:=by simpa using hj
  exact wpOp_step ho (fun K' hK => h K' (fun a w hS hW => hK a w ⟨hS,hW⟩))⟩
theorem wpAnyZ_done {z:Nat} {listed:Array Bool} {a:Act} {w:World} (hr:Region.ready md ops listed = []) (h:Q .normal a w) :
 ∀ fuel,wpAnyZ P md ops Q S z fuel listed a w
 | 0 => ⟨hr,h⟩
 | _ + 1 => ⟨fun _ => h,by rw [hr];simp⟩
theorem wp_region_Z {id:Nat} (z:Nat) (S:World→Prop) {a:Act} {w:World} (hm:P.follows .mixedOrders = true)
 (h:wpAnyZ P .any ops (NoPanic Q) S z ops.size (Array.replicate ops.size false) a w.drew):(Code.region id ops true).wp P Q a w :=
 wp_region_noPanic (wp_region_any hm (wpAny_of_Z _ _ _ _ h))
end
end Go.Proofs.YtdfelohjdkcpkaaGreatDoor
namespace Go.Proofs.YtdfelohjdkcpkaaGreatDoor
open Go.RowKit
set_option maxRecDepth 100000 in
set_option maxHeartbeats 3200000 in
theorem drain_min {G:List Nat} {E:Nat→Addr} (s:Srv) (a:Option Addr) (l:List Srv) (c:Nat) (w:World) (hE:EAt G E w) (i0:9 ∈ G) (i1:11 ∈ G) (i3:6 ∈ G) (hl:SrvsAt w a l) (hm:l.length≤maxLen) (hk:kidsErr s l = none) :
 Calls Tryz.prog 168 #[.agg #[.int .i64 s.k,.int .i64 s.q,.int .i64 s.t],.slice a l.length c] w fun e w' => e = .returned (.tuple #[.int .i64 (drainI s l),.nilIface])∧Gr w w':=by
 obtain ⟨D,hD⟩:∃ D,D = drainI s l:=⟨_,rfl⟩
 rw [← hD];have hDo:∀ d:Nat,1≤d→d≤4096→reqsI l d≤givI (rowI s) d→(∀ k:Nat,1≤k→k < d→¬ reqsI l k≤givI (rowI s) k)→D = d:=fun d h1 h2 h3 h4 => by rw [hD];exact drainI_of h1 h2 h3 h4
 clear hD;have hki:∀ w',Gr w w'→Calls Tryz.prog 163 #[.agg #[.int .i64 s.k,.int .i64 s.q,.int .i64 s.t],.slice a l.length c] w' fun e w'' => e = .returned .nilIface∧Gr w' w'':=fun w' g => by
  have:=kids_any s a l c w' (hE.gr g) i0 i1 i3 (hl.gr g) hm;rw [hk] at this;exact this
 have hds:=drain_some hk;obtain ⟨hp,hs,-,-⟩:=kids_parts hk;obtain ⟨hal,h8⟩:=srvErr_none hs;have hrq:=fun w' (n:Nat) (hn:n≤4096) (g:Gr w w') => drequests_yes a l c n w' (hl.gr g) (srvErr_chk hs (n:=(n:Int)) ⟨by omega,by omega⟩)
 have hbo:=fun w' (n:Nat) (hn:n≤4096) => bound_yes s n w' hp (⟨by omega,by omega⟩:LenOk (n:Int))
 have hrb:∀ n:Nat,n≤4096→0≤reqsI l n∧reqsI l n≤8 * (1099511627776 + 512):=fun n hn => by
  have:=sumI_bd (fun s => reqI s n) l (1099511627776 + 512) (fun x hx => req_bd ((Srv.leg_iff _).1 (List.all_eq_true.1 hal x hx)) ⟨by omega,by omega⟩);have h9:(l.length:Int)≤8:=by omega
  unfold reqsI;omega
 have hgb:∀ n:Nat,n≤4096→0≤givI (rowI s) n∧givI (rowI s) n≤n:=fun n hn => ⟨giv_nonneg (rowI_ok hp) _,giv_le (rowI_ok hp) (by omega)⟩
 have hE0:=fun w' (g:Gr w w') => (hE.gr g)
 unfold reqsI at *;replace hDo:=Lib.hid hDo;replace hki:=Lib.hid hki;replace hrq:=Lib.hid hrq;replace hbo:=Lib.hid hbo;replace hds:=Lib.hid hds;replace hrb:=Lib.hid hrb;replace hgb:=Lib.hid hgb;replace hk:=Lib.hid hk;replace hp:=Lib.hid hp;replace hs:=Lib.hid hs;replace hal:=Lib.hid hal;go_enter Tryz.func168,Tryz.ntmps168;go_wp2_with fail;refine (hki.out _ ((Gr.refl w).alloc _)).mono ?_;rintro e w1 ⟨rfl,g1⟩;obtain ⟨c1,f1,s1⟩:=g1.cells;try simp only [size_drewN] at c1 f1 s1
 try simp only [World.size_alloc] at c1 f1 s1
 try simp only [World.size_drew] at c1 f1 s1
 try simp only [World.size_setCell] at c1 f1 s1
 have z10:w.heap.size < w1.heap.size:=by omega
 have y10:w.heap.size≤w1.heap.size:=by omega
 have k10:=fun o => c1 (w.heap.size) o (by omega)
 have j10:=fun o => f1 (w.heap.size) o (by omega)
 go_wp2_with fail;have gA:Gr w w1:=((Gr.refl w).alloc _).trans g1;go_loopw [7] (fun lv wr => ∃ n:Nat,1≤n∧n≤4096∧lv = .int .i64 n∧Hid (∀ k:Nat,1≤k→k < n→¬ sumI (fun s => reqI s k) l≤givI (rowI s) k)∧Gr w1 wr) (fun lv _ => 4097 - (intOf lv).toNat);case atStart => exact ⟨1,by omega,by omega,rfl,Lib.hid (fun k h1 h2 => by omega),Gr.refl _⟩
 case round =>
  obtain ⟨n,hn1,hn2,rfl,hmin,hg⟩:=hrel;have gall:Gr w wr:=gA.trans hg;obtain ⟨cg,fg,sg⟩:=hg.cells;have k1:=fun o => cg w.heap.size o (by omega)
  clear cg fg;have hnt:decide ((n:Int)≤4096) = true:=decide_eq_true (by omega);obtain ⟨r1,r2⟩:=hrb.out n hn2;obtain ⟨r3,r4⟩:=hgb.out n hn2;have hrq1:=hrq.out wr n hn2 gall;have hbo1:=fun w' => hbo.out w' n hn2
  replace hrq1:=Lib.hid hrq1;replace hbo1:=Lib.hid hbo1;by_cases hle:sumI (fun s => reqI s n) l≤givI (rowI s) n
  ·have hle2:decide (sumI (fun s => reqI s n) l≤givI (rowI s) n) = true:=decide_eq_true hle;obtain ⟨v,hv⟩:∃ v,v = sumI (fun s => reqI s n) l:=⟨_,rfl⟩
   obtain ⟨u,hu⟩:∃ u,u = givI (rowI s) n:=⟨_,rfl⟩
   rw [← hv] at hrq1 hle2 r1 r2 hle;rw [← hu] at hbo1 hle2 r3 r4 hle;replace hv:=Lib.hid hv;replace hu:=Lib.hid hu;go_wp2_with fail;refine hrq1.out.mono ?_;rintro e w2 ⟨rfl,g2⟩;obtain ⟨c2,f2,s2⟩:=g2.cells;have k2:=fun o => c2 w.heap.size o (by omega)
   clear c2 f2;go_wp2_with fail;refine (hbo1.out _).mono ?_;rintro e w3 ⟨rfl,g3⟩;go_wp2_with fail;go_ret2;exact ⟨by rw [hDo.out n hn1 hn2 (by rw [← hv.out,← hu.out];exact hle) hmin.out];rfl,(gall.trans g2).trans g3⟩
  ·have hlt:n < 4096:=by
    by_cases h:n < 4096
    ·exact h
    ·obtain rfl:n = 4096:=by omega
     exact absurd hds.out hle
   have hle2:decide (sumI (fun s => reqI s n) l≤givI (rowI s) n) = false:=decide_eq_false hle;have hle3:givI (rowI s) n < sumI (fun s => reqI s n) l:=by omega
   have hmin2:∀ k:Nat,1≤k→k < n + 1→¬ sumI (fun s => reqI s k) l≤givI (rowI s) k:=fun k h1 h2 => by
    by_cases hkn:k = n
    ·rw [hkn];exact hle
    ·exact hmin.out k h1 (by omega)
   replace hmin2:=Lib.hid hmin2;clear hle;obtain ⟨v,hv⟩:∃ v,v = sumI (fun s => reqI s n) l:=⟨_,rfl⟩
   obtain ⟨u,hu⟩:∃ u,u = givI (rowI s) n:=⟨_,rfl⟩
   rw [← hv] at hrq1 hle2 r1 r2 hle3;rw [← hu] at hbo1 hle2 r3 r4 hle3;replace hv:=Lib.hid hv;replace hu:=Lib.hid hu;go_wp2_with fail;refine hrq1.out.mono ?_;rintro e w2 ⟨rfl,g2⟩;obtain ⟨c2,f2,s2⟩:=g2.cells;have k2:=fun o => c2 w.heap.size o (by omega)
   clear c2 f2;go_wp2_with fail;refine (hbo1.out _).mono ?_;rintro e w3 ⟨rfl,g3⟩;go_wp2_with fail;go_roundw;case rel => exact ⟨n + 1,by omega,by omega,by go_num,Lib.hid (fun k h1 h2 => by have:=hmin2.out k h1 h2;omega),(hg.trans g2).trans g3⟩
   case measure => simp [intOf];omega
set_option maxHeartbeats 800000 in
theorem drain_no {G:List Nat} {E:Nat→Addr} (s:Srv) (a:Option Addr) (l:List Srv) (c:Nat) (w:World) (hE:EAt G E w) (i0:9 ∈ G) (i1:11 ∈ G) (i3:6 ∈ G) (hl:SrvsAt w a l) (hm:l.length≤maxLen) {g:Nat} (hk:kidsErr s l = some g) :
 Calls Tryz.prog 168 #[.agg #[.int .i64 s.k,.int .i64 s.q,.int .i64 s.t],.slice a l.length c] w fun e w' => e = .returned (.tuple #[.int .i64 0,.iface 384 (.pointer (some (E g)))])∧Gr w w':=by
 have hki:∀ w',Gr w w'→Calls Tryz.prog 163 #[.agg #[.int .i64 s.k,.int .i64 s.q,.int .i64 s.t],.slice a l.length c] w' fun e w'' => e = .returned (.iface 384 (.pointer (some (E g))))∧Gr w' w'':=fun w' gg => by
  have:=kids_any s a l c w' (hE.gr gg) i0 i1 i3 (hl.gr gg) hm;rw [hk] at this;exact this
 replace hki:=Lib.hid hki;replace hk:=Lib.hid hk;go_enter Tryz.func168,Tryz.ntmps168;go_wp2_with fail;refine (hki.out _ ((Gr.refl w).alloc _)).mono ?_;rintro e w1 ⟨rfl,g1⟩;obtain ⟨c1,f1,s1⟩:=g1.cells;try simp only [size_drewN] at c1 f1 s1
 try simp only [World.size_alloc] at c1 f1 s1
 try simp only [World.size_drew] at c1 f1 s1
 try simp only [World.size_setCell] at c1 f1 s1
 have z10:w.heap.size < w1.heap.size:=by omega
 have y10:w.heap.size≤w1.heap.size:=by omega
 have k10:=fun o => c1 (w.heap.size) o (by omega)
 have j10:=fun o => f1 (w.heap.size) o (by omega)
 go_wp2_with fail;go_ret2;exact ⟨rfl,((Gr.refl w).alloc _).trans g1⟩
end Go.Proofs.YtdfelohjdkcpkaaGreatDoor
namespace Go.Proofs.YtdfelohjdkcpkaaGreatDoor
open Go.RowKit
theorem flat_set {α:Type} {k:Nat} {enc:α→List Value} (hk:∀ s,(enc s).length = k) {M:List α} {i:Nat} {x y:α} (hx:M[i]? = some x) {j:Nat} (hj:j < k) {v:Value} (h:(enc x).set j v = enc y):(M.flatMap enc).set (i * k + j) v = (M.set i y).flatMap enc:=by
 have hi:=get_lt hx;have h1:M = M.take i ++ x :: M.drop (i + 1):=by
  obtain ⟨h3,h4⟩:=List.getElem?_eq_some_iff.1 hx;rw [← h4,← List.drop_eq_getElem_cons h3,List.take_append_drop]
 have hl:(M.take i).length = i:=by simp;omega
 have hA:((M.take i).flatMap enc).length = i * k:=by
  have:∀ l:List α,(l.flatMap enc).length = l.length * k:=by
   intro l;induction l with
   | nil => simp
   | cons a t ih => rw [List.flatMap_cons,List.length_append,ih,hk,List.length_cons,Nat.succ_mul];omega
  rw [this,hl]
 have h2:M.flatMap enc = (M.take i).flatMap enc ++ (enc x ++ (M.drop (i + 1)).flatMap enc):=by
  conv => lhs;rw [h1]
  rw [List.flatMap_append,List.flatMap_cons]
 have h3:M.set i y = M.take i ++ y :: M.drop (i + 1):=by
  conv => lhs;rw [h1]
  rw [List.set_append,if_neg (by omega),hl,Nat.sub_self];rfl
 rw [h2,List.set_append,if_neg (by rw [hA];omega),hA,Nat.add_sub_cancel_left,List.set_append,if_pos (by rw [hk];exact hj),h,h3,List.flatMap_append,List.flatMap_cons]
theorem owns_apart {w:World} {B B':Nat} {e e':TypeId} {k k':Nat} {v v':Value} {n n':Nat} {xs xs':List Value} (h:w.ownsRow B e k v n xs) (h':w.ownsRow B' e' k' v' n' xs') (he:e ≠ e') {g:Nat} (hg:v.ownBlock = some g):v'.ownBlock ≠ some g:=by
 intro hg';rcases h.2 with ⟨h1,_⟩ | ⟨g1,c1,u1,h1,_,h3,_⟩
 ·rw [h1] at hg;cases hg
 ·rcases h'.2 with ⟨h1',_⟩ | ⟨g2,c2,u2,h1',_,h3',_⟩
  ·rw [h1'] at hg';cases hg'
  ·rw [h1] at hg;rw [h1'] at hg';simp [Value.ownBlock] at hg hg';subst hg hg';rw [h3] at h3';injection h3' with h4
   injection h4 with _ h5 _
   exact he h5
theorem owns_blk {w:World} {B:Nat} {e t:TypeId} {k:Nat} {v:Value} {n:Nat} {xs:List Value} {b:Nat} {cs:Array Value} (h:w.ownsRow B e k v n xs) (hb:Blk w b cs t) (he:e ≠ t):v.ownBlock ≠ some b:=by
 intro hg;rcases h.2 with ⟨h1,_⟩ | ⟨g1,c1,u1,h1,_,h3,_⟩
 ·rw [h1] at hg;cases hg
 ·rw [h1] at hg;simp [Value.ownBlock] at hg;subst hg;rw [show w.heap[g1]? = _ from hb] at h3;injection h3 with h4
  injection h4 with _ h5 _
  exact he h5.symm
theorem NdM.ok.but {K:Nat→Prop} {S:List Nat} {w w':World} {x:NdM} (h:x.ok K w) (g:GrX S w w') (hd:∀ ad,x.a = some ad→x.e.tasks ≠ []→ad.block ∉ S):x.ok K w':=by
 have h1:x.ok (fun b => K b∧b ∉ S) w:=⟨⟨h.1.1,fun ad ha ht => ⟨h.1.2 ad ha ht,hd ad ha ht⟩⟩,h.2⟩
 exact (h1.grx g (fun y hy hk => hk.2 hy)).mono (fun b _ hk => hk.1)
theorem OwnT.ghosts {B:Nat} {S:List Nat} {w w':World} {T:TM} (h:OwnT B w T) (g:GrX S w w') (hn:∀ k,(Value.slice T.an T.N.length T.cn).ownBlock = some k→k ∉ S) (ht:∀ x ∈ T.N,∀ ad,x.a = some ad→x.e.tasks ≠ []→ad.block ∉ S) {G:List Gh} {ag:Option Addr} {cg:Nat} (l n:Int) (hg:w'.ownsRow B 43 5 (.slice ag G.length cg) G.length (G.flatMap Gh.cells)) (hd:∀ x ∈ T.N,∀ ad,x.a = some ad→x.e.tasks ≠ []→(Value.slice ag G.length cg).ownBlock ≠ some ad.block) (hl:G.length≤1000000):OwnT B w' ⟨T.N,T.an,T.cn,G,ag,cg,l,n⟩ :=
 ⟨owns_gx h.n g hn,hg,fun x hx => (h.k x hx).but g (ht x hx),h.d,hd,fun x hx ad ha htt o => by rw [g.frozen ((h.k x hx).1.1.lt ha htt) (ht x hx ad ha htt)];exact h.f x hx ad ha htt o,h.l1,hl⟩
structure OutAt (B:Nat) (w:World) (tb:Nat) (T:TM):Prop where
 o:Blk w tb T.row 27
 t:OwnT B w T
 hB:B≤tb
 b:∀ x ∈ T.N,∀ ad,x.a = some ad→x.e.tasks ≠ []→ad.block ≠ tb
theorem OutAt.gr {B:Nat} {w w':World} {tb:Nat} {T:TM} (h:OutAt B w tb T) (g:Gr w w'):OutAt B w' tb T:=⟨h.o.gr g,h.t.gr g,h.hB,h.b⟩
theorem OutAt.any {B:Nat} {w:World} {tb:Nat} {T:TM} (h:OutAt B w tb T):TreeAt Any w T:=h.t.at.any
theorem owns_srvs {w:World} {B:Nat} {a:Option Addr} {c:Nat} {l:List Srv} (h:w.ownsRow B 29 3 (.slice a l.length c) l.length (l.flatMap Srv.cells)):SrvsAt w a l:=by
 obtain ⟨a1,c1,e1,r1,_,_⟩:=recs_of_owns Srv.cells_len h;injection e1 with p1 _ _
 subst p1;exact recs_srvs r1
end Go.Proofs.YtdfelohjdkcpkaaGreatDoor
