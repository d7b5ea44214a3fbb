/- Lists of records in memory: reading, owning, appending. Nothing of the program is named here. -/
import Derived.WalkKit
import Derived.Laws.AppendOwnNone
import Derived.BigQuiet
import Derived.Deep.QuietTactic
import Derived.Test.YtdfelohjdkcpkaaGreatDoorRows
import Derived.WalkSpells
import Derived.WalkLawsBesides
import Derived.Lib.Hide
import Derived.Deep.RegionHeld3
import Derived.Deep.DrawnRows
import Derived.Deep.DeepFit
import Derived.LaidEql
import Derived.Laws.Rows
import Derived.Laws.IdiomCopy
import Derived.Maps.AppendAt
import Derived.OneCell
import Derived.ProofKit
import Derived.OpenShut
import Derived.Deep.DeepHandedRow
import Derived.Deep.DeepWitnessRowRef
import Derived.LaidLaws
import Derived.LaidMore
import Derived.MakeChecks
import Derived.Deep.Slices
import Derived.Deep.Fields
import Derived.Lib.SmallJoins
namespace Go.Proofs.YtdfelohjdkcpkaaGreatDoor
open Go.RowKit
def Gr (w w':World):Prop:=Below w.heap.size w w'
theorem Gr.refl (w:World):Gr w w:=Below.refl _ _
theorem Gr.alloc {w a:World} (h:Gr w a) (o:Obj):Gr w (a.alloc o):=Below.alloc h h.size o
theorem Gr.drew {w a:World} (h:Gr w a):Gr w a.drew:=Below.drew h
theorem Gr.drewN {w a:World} (h:Gr w a) (n:Nat):Gr w (a.drewN n):=⟨h.os,h.tape,h.output,h.size,h.block⟩
theorem Gr.trans {w a b:World} (h:Gr w a) (k:Gr a b):Gr w b:=Below.trans h (Below.mono k h.size)
theorem Gr.setCell {w a:World} (h:Gr w a) {p:Addr} (hp:w.heap.size≤p.block) (u:Value):Gr w (a.setCell p u):=Below.setCell h hp u
theorem Gr.grown {w a w':World} {row:Option Nat} (h:Gr w a) (hg:a.grownBy w' row) (hr:∀ k,row = some k→w.heap.size≤k):Gr w w':=Below.grown h hg (Below.size h) hr
theorem Gr.size {w a:World} (h:Gr w a):w.heap.size≤a.heap.size:=Below.size h
theorem Gr.cells {W w1:World} (hb:Gr W w1):(∀ b o,b < W.heap.size→w1.cell? ⟨b,o,none⟩ = W.cell? ⟨b,o,none⟩)∧(∀ b o,b < W.heap.size→w1.frozen? ⟨b,o,none⟩ = W.frozen? ⟨b,o,none⟩)∧W.heap.size≤w1.heap.size :=
 ⟨fun b o h => Below.cell hb (p:=⟨b,o,none⟩) h,fun b o h => Below.frozen hb (p:=⟨b,o,none⟩) h,hb.size⟩
theorem le_alloc {B:Nat} {w:World} (h:B≤w.heap.size) (o:Obj):B≤(w.alloc o).heap.size:=by simp;omega
structure GrW (w:World) where
 to:World
 gr:Gr w to
theorem GrW.of {w w':World} (h:∃ x:GrW w,w' = x.to):Gr w w':=by obtain ⟨x,rfl⟩:=h;exact x.gr
instance (w:World):Nonempty (GrW w):=⟨⟨w,Gr.refl w⟩⟩
theorem GrW.cell {w:World} {b o:Nat} {v:Value} (h:w.cell? ⟨b,o,none⟩ = some v):∀ x:GrW w,x.to.cell? ⟨b,o,none⟩ = some v:=by
 intro x;have hb:b < w.heap.size:=by
  unfold World.cell? at h;split at h
  ·rename_i hb;exact (Array.getElem?_eq_some_iff.1 hb).1
  ·cases h
 rw [x.gr.cells.1 b o hb];exact h
theorem wp_region_grows {P:Program} {id:Nat} {Q:Exit→Act→World→Prop} {a:Act} {w:World} {l:List Oper} (hm:P.follows .mixedOrders = true) (hB:Region.lexB .any l.toArray = true)
 (h:wpQuiet P l.toArray (fun w' => ∃ x:GrW w,w' = x.to) (fun a' => ∀ w',(∃ x:GrW w,w' = x.to)→Q .normal a' w') l a):(Code.region id l.toArray true).wp P Q a w :=
 wp_region_quiet (C:=fun w' => ∃ x:GrW w,w' = x.to) hm hB ⟨⟨_,(Gr.refl w).drew⟩,rfl⟩ (by simpa using h)
theorem Calls.grows {P:Program} {f:FuncId} {args:Array Value} {w:World} {x:GrW w} {v:Value}
 (h:Calls P f args x.to fun e w' => e = .returned v∧Gr x.to w'):Calls P f args x.to fun e w'' => e = .returned v∧∃ y:GrW w,w'' = y.to :=
 h.mono fun _ w'' ⟨he,hg⟩ => ⟨he,⟨w'',x.gr.trans hg⟩,rfl⟩
theorem Calls.grows_same {P:Program} {f:FuncId} {args:Array Value} {w:World} {x:GrW w} {v:Value}
 (h:Calls P f args x.to fun e w' => e = .returned v∧x.to = w'):Calls P f args x.to fun e w'' => e = .returned v∧∃ y:GrW w,w'' = y.to :=
 h.mono fun _ _ ⟨he,hg⟩ => ⟨he,x,hg.symm⟩
def RecsAt {α:Type} (k:Nat) (enc:α→List Value) (w:World) (a:Option Addr) (l:List α):Prop :=
 ∀ (i:Nat) (s:α),l[i]? = some s→∃ b off,a = some ⟨b,off,none⟩∧b < w.heap.size∧∀ (j:Nat) (u:Value),(enc s)[j]? = some u→w.cell? ⟨b,off + i * k + j,none⟩ = some u
section
variable {α:Type} {k:Nat} {enc:α→List Value}
theorem flat_len (hk:∀ s,(enc s).length = k) (l:List α):(l.flatMap enc).length = l.length * k:=by
 induction l with
 | nil => simp
 | cons s r ih => rw [List.flatMap_cons,List.length_append,ih,hk,List.length_cons,Nat.add_mul,Nat.one_mul,Nat.add_comm]
theorem flat_get (hk:∀ s,(enc s).length = k):∀ (l:List α) (i:Nat) (s:α) (j:Nat) (u:Value),l[i]? = some s→(enc s)[j]? = some u→(l.flatMap enc)[i * k + j]? = some u:=by
 intro l;induction l with
 | nil => intro i s j u h;simp at h
 | cons x r ih =>
  intro i s j u h hu;rw [List.flatMap_cons];cases i with
  | zero =>
   obtain rfl:x = s:=by simpa using h
   have hj:j < (enc x).length:=(List.getElem?_eq_some_iff.1 hu).1;rw [Nat.zero_mul,Nat.zero_add,List.getElem?_append_left hj];exact hu
  | succ i =>
   have h':r[i]? = some s:=by simpa using h
   rw [List.getElem?_append_right (by rw [hk,Nat.add_mul];omega),hk,show (i + 1) * k + j - k = i * k + j by rw [Nat.add_mul];omega];exact ih i s j u h' hu
theorem flat_at (hk:∀ s,(enc s).length = k) (hp:0 < k) (l:List α) (m:Nat) (u:Value) (h:(l.flatMap enc)[m]? = some u):∃ s,l[m / k]? = some s∧(enc s)[m % k]? = some u:=by
 have hm:m < l.length * k:=by rw [← flat_len hk l];exact (List.getElem?_eq_some_iff.1 h).1
 have hi:m / k < l.length:=(Nat.div_lt_iff_lt_mul hp).2 hm;have hs:l[m / k]? = some l[m / k]:=List.getElem?_eq_getElem hi;have hj:m % k < (enc l[m / k]).length:=by rw [hk];exact Nat.mod_lt _ hp
 refine ⟨_,hs,?_⟩;have hu:(enc l[m / k])[m % k]? = some (enc l[m / k])[m % k]:=List.getElem?_eq_getElem hj;have:=flat_get hk l _ _ _ _ hs hu;rw [Nat.mul_comm,Nat.div_add_mod] at this;rw [hu,← this,h]
theorem recs_take {w:World} {a:Option Addr} {l:List α} (h:RecsAt k enc w a l) (n:Nat):RecsAt k enc w a (l.take n):=by
 intro i s hi;rw [List.getElem?_take] at hi;split at hi
 ·exact h i s hi
 ·cases hi
theorem recs_of_owns {w:World} {base:Nat} {e:TypeId} {v:Value} {l:List α} (hk:∀ s,(enc s).length = k) (h:w.ownsRow base e k v l.length (l.flatMap enc)) :
 ∃ a c,v = .slice a l.length c∧RecsAt k enc w a l∧(a = none→c = 0)∧∀ x,a = some x→base≤x.block:=by
 obtain ⟨_,h | ⟨g,cap,cur,hv,hg,hh,hn,_,hsz,htk⟩⟩:=h
 ·obtain ⟨rfl,hn⟩:=h;obtain rfl:l = []:=List.length_eq_zero_iff.1 hn;exact ⟨none,0,rfl,(fun i s hs => by simp at hs),(fun _ => rfl),(fun x hx => by cases hx)⟩
 ·refine ⟨some ⟨g,0,none⟩,cap,hv,fun i s hi => ⟨g,0,rfl,(Array.getElem?_eq_some_iff.1 hh).1,fun j u hu => ?_⟩,(fun hx => by cases hx),fun x hx => by cases hx;exact hg⟩;have h1:=flat_get hk l i s j u hi hu;rw [← htk] at h1;rw [List.getElem?_take] at h1;split at h1
  ·rw [World.cell?,hh];simpa using h1
  ·cases h1
theorem own_block {w:World} {base:Nat} {e:TypeId} {size:Nat} {v:Value} {n:Nat} {xs:List Value} (h:w.ownsRow base e size v n xs):∀ k,v.ownBlock = some k→base≤k:=by
 intro k hk;obtain ⟨_,h | ⟨g,cap,cur,hv,hg,_⟩⟩:=h
 ·obtain ⟨rfl,_⟩:=h;simp [Value.ownBlock] at hk
 ·subst hv;simp [Value.ownBlock] at hk;omega
theorem recs_alloc (hk:∀ s,(enc s).length = k) (w:World) (l:List α) (e:TypeId) (cs:Array Value) (h:cs.toList = l.flatMap enc):RecsAt k enc (w.alloc (.cells cs e)) (some ⟨w.heap.size,0,none⟩) l:=by
 intro i s hi;refine ⟨w.heap.size,0,rfl,by simp,fun j u hu => ?_⟩;have h1:=flat_get hk l i s j u hi hu;rw [← h] at h1;rw [World.cell?,heap_alloc_new w _,Nat.zero_add];simpa using h1
theorem wpList_append_recs {P:Program} {w:World} {ops:Array Oper} {rest:List Oper} {o:Oper} {a:Act} {Q:Exit→Act→World→Prop} (hgd:o.guard = none) (s x:Operand) (t:TypeId)
 (ho:o.op = .call { callee:=.builtin .append,args:=#[s,x],argTypes:=#[t,t] })
 (base:Nat) (e:TypeId) (i:TypeInfo) (z:Value) (bytes:Nat) (ht:P.underlying t = some (.slice e)) (hi:P.info? e = some i) (hz:i.zero = some z)
 (hsize:i.size = k) (hby:i.bytes = bytes) (hzs:z.cells.size = k) (hsz:0 < k)
 (hk:∀ s,(enc s).length = k) (h1:∀ s,∀ u ∈ enc s,u.oneCell' = true)
 (v:Value) (l0:List α) (hs:a.eval s = v) (hown:w.ownsRow base e k v l0.length (l0.flatMap enc))
 (sa:Option Addr) (c:Nat) (l:List α) (hx:a.eval x = .slice sa l.length c) (hl:RecsAt k enc w sa l) (hc:sa = none→c = 0)
 (h63:l0.length + l.length≤maxLen) (hbytes:(l0.length + l.length) * bytes≤140737488355328) (hbase:base≤w.heap.size)
 (h:∀ v' w',w'.ownsRow base e k v' (l0 ++ l).length ((l0 ++ l).flatMap enc)→w.grownBy w' v.ownBlock→wpList P ops Q rest (a.put o.dst v') w'):wpList P ops Q (o :: rest) a w:=by
 cases sa with
 | none =>
  obtain rfl:=hc rfl;obtain rfl:l = []:=by
   cases l with
   | nil => rfl
   | cons y r => obtain ⟨b,off,hh,_⟩:=hl 0 y rfl;cases hh
  refine wpList_append_own_none hgd s x t ho base e i k ht hi v l0.length (l0.flatMap enc) hs hown hx ?_;exact h v w (by simpa using hown) ⟨rfl,rfl,rfl,Nat.le_refl _,fun _ _ _ => rfl⟩
 | some ad =>
  refine wpList_append_own w hgd s x t ho base e i z k bytes ht hi hz hsize hby hzs hsz v l0.length (l0.flatMap enc) hs hown ad l.length c (l.flatMap enc) hx (flat_len hk l) ?_ ?_ h63 hbytes hbase ?_
  ·intro j u hj;obtain ⟨y,hy,hu⟩:=flat_at hk hsz l j u hj;obtain ⟨b,off,hh,_,hcell⟩:=hl _ y hy;obtain rfl:=Option.some.inj hh;have:=hcell _ u hu;have e1:off + j / k * k + j % k = off + j:=by rw [Nat.add_assoc,Nat.mul_comm,Nat.div_add_mod]
   rw [e1] at this;unfold Addr.add;by_cases hj0:j = 0
   ·subst hj0;simpa using this
   ·simpa [hj0] using this
  ·intro u hu;obtain ⟨y,_,hy⟩:=List.mem_flatMap.1 hu;exact h1 y u hy
  ·intro v' w' ho' hg' _;exact h v' w' (by simpa using ho') hg'
theorem owns_empty (w:World) (e:TypeId) (k:Nat) (o:Obj) (ho:o = .cells #[] e (0,0)) (base:Nat) (hb:base≤w.heap.size):(w.alloc o).ownsRow base e k (.slice (some ⟨w.heap.size,0,none⟩) 0 0) ([]:List α).length (([]:List α).flatMap enc):=by
 subst ho;refine ⟨by simp,.inr ⟨w.heap.size,0,#[],rfl,hb,heap_alloc_new w _,Nat.le_refl _,Nat.zero_le _,by simp,by simp⟩⟩
theorem wpList_copy_recs {P:Program} {w:World} {ops:Array Oper} {rest:List Oper} {o:Oper} {a:Act} {Q:Exit→Act→World→Prop} (hgd:o.guard = none) (s x:Operand) (t:TypeId)
 (ho:o.op = .call { callee:=.builtin .append,args:=#[s,x],argTypes:=#[t,t] })
 (e:TypeId) (i:TypeInfo) (z:Value) (bytes:Nat) (ht:P.underlying t = some (.slice e)) (hi:P.info? e = some i) (hz:i.zero = some z)
 (hsize:i.size = k) (hby:i.bytes = bytes) (hzs:z.cells.size = k) (hsz:0 < k)
 (hk:∀ s,(enc s).length = k) (h1:∀ s,∀ u ∈ enc s,u.oneCell' = true) (hs:a.eval s = .slice (some ⟨w.heap.size,0,none⟩) 0 0)
 (sa:Option Addr) (c:Nat) (l:List α) (hx:a.eval x = .slice sa l.length c) (hl:RecsAt k enc w sa l) (hc:sa = none→c = 0)
 (h63:l.length≤maxLen) (hbytes:l.length * bytes≤140737488355328)
 (h:∀ a' c' w',RecsAt k enc w' a' l→(a' = none→c' = 0)→(∀ x,a' = some x→w.heap.size≤x.block)→Gr w w'→wpList P ops Q rest (a.put o.dst (.slice a' l.length c')) w'):wpList P ops Q (o :: rest) a (w.alloc (.cells #[] e)):=by
 have hl':RecsAt k enc (w.alloc (.cells #[] e)) sa l:=by
  intro i s hi;obtain ⟨b,off,ha,hb,hcl⟩:=hl i s hi;exact ⟨b,off,ha,by simp;omega,fun j u hu => by rw [((Gr.refl w).alloc (.cells #[] e)).cells.1 _ _ hb];exact hcl j u hu⟩
 refine wpList_append_recs (k:=k) (enc:=enc) hgd s x t ho w.heap.size e i z bytes ht hi hz hsize hby hzs hsz hk h1 (.slice (some ⟨w.heap.size,0,none⟩) 0 0) [] hs (owns_empty w e k _ rfl _ (Nat.le_refl _)) sa c l hx hl' hc (by simpa using h63) (by simpa using hbytes) (by simp) ?_;intro v' w' hown hgr;obtain ⟨a',c',hv,hr,hn,hB⟩:=recs_of_owns (l:=[] ++ l) hk hown;rw [hv];exact h a' c' w' hr hn hB (((Gr.refl w).alloc _).grown hgr (by simp [Value.ownBlock]))
end
end Go.Proofs.YtdfelohjdkcpkaaGreatDoor
namespace Go.Proofs.YtdfelohjdkcpkaaGreatDoor
open Go.RowKit
section
variable {α:Type} {k:Nat} {enc:α→List Value}
theorem wpList_copyN {P:Program} {w:World} {ops:Array Oper} {rest:List Oper} {o:Oper} {a:Act} {Q:Exit→Act→World→Prop} (hgd:o.guard = none) (s x:Operand) (t:TypeId)
 (ho:o.op = .call { callee:=.builtin .append,args:=#[s,x],argTypes:=#[t,t] })
 (e:TypeId) (i:TypeInfo) (z:Value) (bytes:Nat) (ht:P.underlying t = some (.slice e)) (hi:P.info? e = some i) (hz:i.zero = some z)
 (hsize:i.size = k) (hby:i.bytes = bytes) (hzs:z.cells.size = k) (hsz:0 < k)
 (hk:∀ s,(enc s).length = k) (h1:∀ s,∀ u ∈ enc s,u.oneCell' = true) (N:Nat) (hN:w.heap.size = N) (hs:a.eval s = .slice (some ⟨N,0,none⟩) 0 0)
 (sa:Option Addr) (c:Nat) (l:List α) (hx:a.eval x = .slice sa l.length c) (hl:RecsAt k enc w sa l) (hc:sa = none→c = 0)
 (h63:l.length≤maxLen) (hbytes:l.length * bytes≤140737488355328)
 (h:∀ v' w',w'.ownsRow w.heap.size e k v' l.length (l.flatMap enc)→Gr w w'→wpList P ops Q rest (a.put o.dst v') w'):wpList P ops Q (o :: rest) a (w.alloc (.cells #[] e)):=by
 subst hN;have hl':RecsAt k enc (w.alloc (.cells #[] e)) sa l:=by
  intro i s hi;obtain ⟨b,off,ha,hb,hcl⟩:=hl i s hi;exact ⟨b,off,ha,by simp;omega,fun j u hu => by rw [((Gr.refl w).alloc (.cells #[] e)).cells.1 _ _ hb];exact hcl j u hu⟩
 refine wpList_append_recs (k:=k) (enc:=enc) hgd s x t ho w.heap.size e i z bytes ht hi hz hsize hby hzs hsz hk h1 (.slice (some ⟨w.heap.size,0,none⟩) 0 0) [] hs (owns_empty w e k _ rfl _ (Nat.le_refl _)) sa c l hx hl' hc (by simpa using h63) (by simpa using hbytes) (by simp) ?_;intro v' w' hown hgr;exact h v' w' hown (((Gr.refl w).alloc _).grown hgr (by simp [Value.ownBlock]))
end
end Go.Proofs.YtdfelohjdkcpkaaGreatDoor
namespace Go.Proofs.YtdfelohjdkcpkaaGreatDoor
open Go.RowKit
abbrev errAt (E:Nat→Addr) (g:Nat):Value:=.iface 384 (.pointer (some (E g)))
structure EAt (G:List Nat) (E:Nat→Addr) (w:World):Prop where
 lt:∀ g,g ∈ G→g < w.heap.size
 at_lt:∀ g,g ∈ G→(E g).block < w.heap.size
 cell:∀ g,g ∈ G→w.cell? ⟨g,0,none⟩ = some (errAt E g)
 row:∀ g,g ∈ G→∃ c t,w.heap[(E g).block]? = some (.cells c t (0,0))
 ne:∀ g k,g ∈ G→k ∈ G→g ≠ k→E g ≠ E k
theorem EAt.gr {G:List Nat} {E:Nat→Addr} {w w':World} (h:EAt G E w) (g:Gr w w'):EAt G E w' where
 lt k hk:=Nat.lt_of_lt_of_le (h.lt k hk) g.size
 at_lt k hk:=Nat.lt_of_lt_of_le (h.at_lt k hk) g.size
 cell k hk:=by rw [g.cells.1 k 0 (h.lt k hk)];exact h.cell k hk
 row k hk:=by obtain ⟨c,t,e⟩:=h.row k hk;exact ⟨c,t,by rw [Below.block g _ (h.at_lt k hk)];exact e⟩
 ne:=h.ne
theorem EAt.c0 {G:List Nat} {E:Nat→Addr} {w:World} (h:EAt G E w) {g:Nat} (hg:g ∈ G):w.cell? ⟨g,0,none⟩ = some (.iface 384 (.pointer (some (E g)))):=h.cell g hg
structure Srv where
 k:Int
 q:Int
 t:Int
structure Tsk where
 c:Int
 p:Int
 d:Int
 s:Int
instance:Inhabited Srv:=⟨⟨0,0,0⟩⟩
instance:Inhabited Tsk:=⟨⟨0,0,0,0⟩⟩
def Srv.leg (s:Srv):Bool:=decide (1≤s.k∧s.k≤3∧1≤s.q∧s.q≤s.t∧s.t≤256)
def Tsk.leg (t:Tsk):Bool:=decide (1≤t.c∧t.c≤t.d∧t.d≤t.p∧t.p≤256∧0≤t.s∧t.s≤t.c)
theorem Srv.leg_iff (s:Srv):s.leg = true ↔ (1≤s.k∧s.k≤3∧1≤s.q∧s.q≤s.t∧s.t≤256):=by unfold Srv.leg;exact decide_eq_true_iff
theorem Tsk.leg_iff (t:Tsk):t.leg = true ↔ (1≤t.c∧t.c≤t.d∧t.d≤t.p∧t.p≤256∧0≤t.s∧t.s≤t.c):=by unfold Tsk.leg;exact decide_eq_true_iff
def SrvsAt (w:World) (a:Option Addr) (l:List Srv):Prop :=
 ∀ (i:Nat) (s:Srv),l[i]? = some s→∃ b off,a = some ⟨b,off,none⟩∧b < w.heap.size∧w.cell? ⟨b,off + i * 3,none⟩ = some (.int .i64 s.k)∧w.cell? ⟨b,off + i * 3 + 1,none⟩ = some (.int .i64 s.q)∧w.cell? ⟨b,off + i * 3 + 2,none⟩ = some (.int .i64 s.t)
def TsksAt (w:World) (a:Option Addr) (l:List Tsk):Prop :=
 ∀ (i:Nat) (s:Tsk),l[i]? = some s→∃ b off,a = some ⟨b,off,none⟩∧b < w.heap.size∧w.cell? ⟨b,off + i * 4,none⟩ = some (.int .i64 s.c)∧w.cell? ⟨b,off + i * 4 + 1,none⟩ = some (.int .i64 s.p)∧w.cell? ⟨b,off + i * 4 + 2,none⟩ = some (.int .i64 s.d)∧w.cell? ⟨b,off + i * 4 + 3,none⟩ = some (.int .i64 s.s)
theorem SrvsAt.gr {w w':World} {a:Option Addr} {l:List Srv} (h:SrvsAt w a l) (g:Gr w w'):SrvsAt w' a l:=by
 intro i s hi;obtain ⟨b,off,ha,hb,h0,h1,h2⟩:=h i s hi;have hc:=g.cells.1;exact ⟨b,off,ha,Nat.lt_of_lt_of_le hb g.size,by rw [hc _ _ hb];exact h0,by rw [hc _ _ hb];exact h1,by rw [hc _ _ hb];exact h2⟩
theorem TsksAt.gr {w w':World} {a:Option Addr} {l:List Tsk} (h:TsksAt w a l) (g:Gr w w'):TsksAt w' a l:=by
 intro i s hi;obtain ⟨b,off,ha,hb,h0,h1,h2,h3⟩:=h i s hi;have hc:=g.cells.1;exact ⟨b,off,ha,Nat.lt_of_lt_of_le hb g.size,by rw [hc _ _ hb];exact h0,by rw [hc _ _ hb];exact h1,by rw [hc _ _ hb];exact h2,by rw [hc _ _ hb];exact h3⟩
theorem get_some {α:Type} (l:List α) (i:Nat) (h:i < l.length):∃ s,l[i]? = some s:=⟨l[i],by simp [h]⟩
theorem take_snoc {α:Type} {l:List α} {i:Nat} {s:α} (h:l[i]? = some s):l.take (i + 1) = l.take i ++ [s]:=by
 rw [List.take_add_one,h];rfl
theorem get_lt {α:Type} {l:List α} {i:Nat} {s:α} (h:l[i]? = some s):i < l.length:=by
 have:=List.getElem?_eq_some_iff.1 h;exact this.1
theorem get_mem {α:Type} {l:List α} {i:Nat} {s:α} (h:l[i]? = some s):s ∈ l:=List.mem_of_getElem? h
abbrev Srv.cells (s:Srv):List Value:=[.int .i64 s.k,.int .i64 s.q,.int .i64 s.t]
abbrev Tsk.cells (s:Tsk):List Value:=[.int .i64 s.c,.int .i64 s.p,.int .i64 s.d,.int .i64 s.s]
theorem recs_srvs {w:World} {a:Option Addr} {l:List Srv} (h:RecsAt 3 Srv.cells w a l):SrvsAt w a l:=by
 intro i s hi;obtain ⟨b,off,ha,hb,hc⟩:=h i s hi;exact ⟨b,off,ha,hb,hc 0 _ rfl,hc 1 _ rfl,hc 2 _ rfl⟩
theorem recs_tsks {w:World} {a:Option Addr} {l:List Tsk} (h:RecsAt 4 Tsk.cells w a l):TsksAt w a l:=by
 intro i s hi;obtain ⟨b,off,ha,hb,hc⟩:=h i s hi;exact ⟨b,off,ha,hb,hc 0 _ rfl,hc 1 _ rfl,hc 2 _ rfl,hc 3 _ rfl⟩
theorem Srv.cells_len (s:Srv):s.cells.length = 3:=rfl
theorem Tsk.cells_len (s:Tsk):s.cells.length = 4:=rfl
theorem Srv.cells_one (s:Srv):∀ u ∈ s.cells,u.oneCell' = true:=by intro u hu;simp at hu;rcases hu with rfl | rfl | rfl <;> rfl
theorem Tsk.cells_one (s:Tsk):∀ u ∈ s.cells,u.oneCell' = true:=by intro u hu;simp at hu;rcases hu with rfl | rfl | rfl | rfl <;> rfl
theorem Tryz.infoSrv:(Tryz.prog.info? 29).map (fun i => (i.zero,i.size,i.bytes)) = some (some (.agg #[.int .i64 0,.int .i64 0,.int .i64 0]),3,24):=by kernel_rfl
theorem Tryz.infoTsk:(Tryz.prog.info? 41).map (fun i => (i.zero,i.size,i.bytes)) = some (some (.agg #[.int .i64 0,.int .i64 0,.int .i64 0,.int .i64 0]),4,32):=by kernel_rfl
theorem size_drewN (w:World) (n:Nat):(w.drewN n).heap.size = w.heap.size:=rfl
theorem ret2 {k:IntKind} {a b a' b':Int} (h1:a = a') (h2:b = b'):Ending.returned (.tuple #[.int k a,.int k b]) = .returned (.tuple #[.int k a',.int k b']):=by rw [h1,h2]
theorem ret1 {k:IntKind} {a b:Int} (h:a = b):Ending.returned (.int k a) = .returned (.int k b):=by rw [h]
theorem retb {a b:Bool} (h:a = b):Ending.returned (.bool a) = .returned (.bool b):=by rw [h]
end Go.Proofs.YtdfelohjdkcpkaaGreatDoor
namespace Go.Proofs.YtdfelohjdkcpkaaGreatDoor
open Go.RowKit
def Blk (w:World) (b:Nat) (cs:Array Value) (t:TypeId):Prop:=w.heap[b]? = some (.cells cs t (0,0))
theorem Blk.cell {w:World} {b:Nat} {cs:Array Value} {t:TypeId} (h:Blk w b cs t) {i:Nat} {v:Value} (hv:cs[i]? = some v):w.cell? ⟨b,i,none⟩ = some v:=by rw [cell_of_row w b i cs t (0,0) h,hv]
theorem Blk.free {w:World} {b:Nat} {cs:Array Value} {t:TypeId} (h:Blk w b cs t) (i:Nat):w.frozen? ⟨b,i,none⟩ = false:=frozen_of_row w b i cs t h
theorem Blk.lt {w:World} {b:Nat} {cs:Array Value} {t:TypeId} (h:Blk w b cs t):b < w.heap.size:=(Array.getElem?_eq_some_iff.1 h).1
theorem Blk.new (w:World) (cs:Array Value) (t:TypeId):Blk (w.alloc (.cells cs t)) w.heap.size cs t:=heap_alloc_new w _
theorem Blk.alloc {w:World} {b:Nat} {cs:Array Value} {t:TypeId} (h:Blk w b cs t) (o:Obj):Blk (w.alloc o) b cs t:=by unfold Blk;rw [heap_alloc_old w o h.lt];exact h
theorem Blk.drew {w:World} {b:Nat} {cs:Array Value} {t:TypeId} (h:Blk w b cs t):Blk w.drew b cs t:=h
theorem Blk.set {w:World} {b:Nat} {cs:Array Value} {t:TypeId} (h:Blk w b cs t) (i:Nat) (v:Value):Blk (w.setCell ⟨b,i,none⟩ v) b (cs.setIfInBounds i v) t:=heap_setCell_same w b i cs t v h
theorem Blk.other {w:World} {b:Nat} {cs:Array Value} {t:TypeId} (h:Blk w b cs t) {a:Addr} (ha:b ≠ a.block) (v:Value):Blk (w.setCell a v) b cs t:=by unfold Blk;rw [heap_setCell_other w a b v ha];exact h
theorem Blk.gr {w w':World} {b:Nat} {cs:Array Value} {t:TypeId} (h:Blk w b cs t) (g:Gr w w'):Blk w' b cs t:=by unfold Blk;rw [g.block b h.lt];exact h
structure GrX (S:List Nat) (w w':World):Prop where
 os:w'.os = w.os
 tape:w'.tape = w.tape
 output:w'.output = w.output
 size:w.heap.size≤w'.heap.size
 block:∀ k,k < w.heap.size→k ∉ S→w'.heap[k]? = w.heap[k]?
theorem Gr.x {w w':World} (g:Gr w w') (S:List Nat):GrX S w w':=⟨g.os,g.tape,g.output,g.size,fun k hk _ => g.block k hk⟩
theorem GrX.refl (S:List Nat) (w:World):GrX S w w:=(Gr.refl w).x S
theorem GrX.trans {S:List Nat} {a b c:World} (h:GrX S a b) (g:GrX S b c):GrX S a c :=
 ⟨g.os.trans h.os,g.tape.trans h.tape,g.output.trans h.output,Nat.le_trans h.size g.size,fun k hk hn => (g.block k (Nat.lt_of_lt_of_le hk h.size) hn).trans (h.block k hk hn)⟩
theorem GrX.gr {S:List Nat} {a b c:World} (h:GrX S a b) (g:Gr b c):GrX S a c:=h.trans (g.x S)
theorem GrX.set {S:List Nat} {a b:World} (h:GrX S a b) {p:Addr} (hp:p.block ∈ S ∨ a.heap.size≤p.block) (v:Value):GrX S a (b.setCell p v) :=
 ⟨h.os,h.tape,h.output,by simp;exact h.size,fun k hk hn => by
  rw [heap_setCell_other b p k v (fun e => by rcases hp with hp | hp;exact hn (e ▸ hp);omega)];exact h.block k hk hn⟩
theorem GrX.alloc {S:List Nat} {a b:World} (h:GrX S a b) (o:Obj):GrX S a (b.alloc o):=h.gr ((Gr.refl b).alloc o)
theorem GrX.drew {S:List Nat} {a b:World} (h:GrX S a b):GrX S a b.drew:=h.gr ((Gr.refl b).drew)
theorem GrX.drewN {S:List Nat} {a b:World} (h:GrX S a b) (n:Nat):GrX S a (b.drewN n):=h.gr ((Gr.refl b).drewN n)
theorem GrX.all {S:List Nat} {w a b:World} (g:Gr w a) (h:GrX S a b) (hS:∀ x,x ∈ S→w.heap.size≤x):Gr w b :=
 ⟨h.os.trans g.os,h.tape.trans g.tape,h.output.trans g.output,Nat.le_trans g.size h.size,fun k hk => by
  rw [h.block k (Nat.lt_of_lt_of_le hk g.size) (fun hx => by have:=hS k hx;omega)];exact g.block k hk⟩
theorem Blk.grx {S:List Nat} {w w':World} {b:Nat} {cs:Array Value} {t:TypeId} (h:Blk w b cs t) (g:GrX S w w') (hn:b ∉ S):Blk w' b cs t:=by unfold Blk;rw [g.block b h.lt hn];exact h
theorem GrX.cell {S:List Nat} {w w':World} (g:GrX S w w') {b:Nat} (hb:b < w.heap.size) (hn:b ∉ S) (o:Nat):w'.cell? ⟨b,o,none⟩ = w.cell? ⟨b,o,none⟩:=World.cell?_of_block (g.block b hb hn)
theorem GrX.frozen {S:List Nat} {w w':World} (g:GrX S w w') {b:Nat} (hb:b < w.heap.size) (hn:b ∉ S) (o:Nat):w'.frozen? ⟨b,o,none⟩ = w.frozen? ⟨b,o,none⟩:=World.frozen?_of_block (g.block b hb hn)
def RecsIn {α:Type} (K:Nat→Prop) (k:Nat) (enc:α→List Value) (w:World) (a:Option Addr) (l:List α):Prop:=RecsAt k enc w a l∧∀ x,a = some x→l ≠ []→K x.block
theorem RecsIn.grx {α:Type} {K:Nat→Prop} {T:List Nat} {k:Nat} {enc:α→List Value} {w w':World} {a:Option Addr} {l:List α} (h:RecsIn K k enc w a l) (g:GrX T w w') (hT:∀ x,x ∈ T→¬ K x):RecsIn K k enc w' a l:=by
 refine ⟨fun i s hi => ?_,h.2⟩;obtain ⟨b,off,ha,hb,hc⟩:=h.1 i s hi;have hn:K b:=h.2 _ ha (fun e => by rw [e] at hi;cases hi);refine ⟨b,off,ha,Nat.lt_of_lt_of_le hb g.size,fun j u hu => ?_⟩;rw [g.cell hb (fun hx => hT b hx hn)];exact hc j u hu
theorem RecsIn.mono {α:Type} {K K':Nat→Prop} {k:Nat} {enc:α→List Value} {w:World} {a:Option Addr} {l:List α} (h:RecsIn K k enc w a l) (hk:∀ b,b < w.heap.size→K b→K' b):RecsIn K' k enc w a l:=by
 refine ⟨h.1,fun x hx hl => ?_⟩;cases l with
 | nil => exact absurd rfl hl
 | cons s r =>
  obtain ⟨b,off,ha,hb,_⟩:=h.1 0 s rfl;rw [hx] at ha;cases ha
  exact hk _ hb (h.2 _ hx hl)
theorem RecsIn.nil {α:Type} (K:Nat→Prop) (k:Nat) (enc:α→List Value) (w:World) (a:Option Addr):RecsIn K k enc w a []:=⟨fun i s h => by simp at h,fun _ _ h => absurd rfl h⟩
abbrev Any:Nat→Prop:=fun _ => True
theorem RecsAt.lt {α:Type} {k:Nat} {enc:α→List Value} {w:World} {a:Option Addr} {l:List α} (h:RecsAt k enc w a l) {x:Addr} (ha:a = some x) (hl:l ≠ []):x.block < w.heap.size:=by
 cases l with
 | nil => exact absurd rfl hl
 | cons s r =>
  obtain ⟨b,off,ha',hb,_⟩:=h 0 s rfl;rw [ha] at ha';cases ha'
  exact hb
theorem RecsAt.grown {α:Type} {k:Nat} {enc:α→List Value} {w w':World} {a:Option Addr} {l:List α} {row:Option Nat} (h:RecsAt k enc w a l) (hg:w.grownBy w' row) (hne:∀ x,a = some x→l ≠ []→row ≠ some x.block):RecsAt k enc w' a l:=by
 intro i s hi;obtain ⟨b,off,ha,hb,hc⟩:=h i s hi;have hn:=hne _ ha (fun e => by rw [e] at hi;cases hi);refine ⟨b,off,ha,Nat.lt_of_lt_of_le hb hg.size,fun j u hu => ?_⟩;rw [World.cell?_of_block (hg.block b hb (fun e => hn e.symm))];exact hc j u hu
theorem owns_gr {w w':World} {base:Nat} {e:TypeId} {size:Nat} {v:Value} {n:Nat} {xs:List Value} (h:w.ownsRow base e size v n xs) (g:Gr w w'):w'.ownsRow base e size v n xs:=by
 refine ⟨h.1,?_⟩;rcases h.2 with hn | ⟨b,cap,cur,h1,h2,h3,h4⟩
 ·exact .inl hn
 ·exact .inr ⟨b,cap,cur,h1,h2,by rw [Below.block g _ (Array.getElem?_eq_some_iff.1 h3).1];exact h3,h4⟩
theorem owns_lt {w:World} {base:Nat} {e:TypeId} {size:Nat} {v:Value} {n:Nat} {xs:List Value} (h:w.ownsRow base e size v n xs):∀ g,v.ownBlock = some g→g < w.heap.size∧base≤g:=fun g hg => ⟨(h.lt g hg).2,(h.lt g hg).1⟩
theorem wpList_append_one {α:Type} {k:Nat} {enc:α→List Value} {P:Program} {w:World} {ops:Array Oper} {rest:List Oper} {o:Oper} {a:Act} {Q:Exit→Act→World→Prop} (hgd:o.guard = none) (s x:Operand) (t:TypeId)
 (ho:o.op = .call { callee:=.builtin .append,args:=#[s,x],argTypes:=#[t,t] })
 (base:Nat) (e:TypeId) (i:TypeInfo) (z:Value) (bytes:Nat) (ht:P.underlying t = some (.slice e)) (hi:P.info? e = some i) (hz:i.zero = some z)
 (hsize:i.size = k) (hby:i.bytes = bytes) (hzs:z.cells.size = k) (hsz:0 < k)
 (hk:∀ s,(enc s).length = k) (h1:∀ s,∀ u ∈ enc s,u.oneCell' = true)
 (v:Value) (l0:List α) (hs:a.eval s = v) (hown:w.ownsRow base e k v l0.length (l0.flatMap enc))
 (B c:Nat) (y:α) (hx:a.eval x = .slice (some ⟨B,0,none⟩) 1 c) (hl:RecsAt k enc w (some ⟨B,0,none⟩) [y])
 (h63:l0.length + 1≤maxLen) (hbytes:(l0.length + 1) * bytes≤140737488355328) (hbase:base≤w.heap.size)
 (h:∀ v' w',w'.ownsRow base e k v' (l0 ++ [y]).length ((l0 ++ [y]).flatMap enc)→w.grownBy w' v.ownBlock→(v'.ownBlock = v.ownBlock ∨ v'.ownBlock = some w.heap.size)→wpList P ops Q rest (a.put o.dst v') w'):wpList P ops Q (o :: rest) a w:=by
 refine wpList_append_own_at w hgd s x t ho base e i z k bytes ht hi hz hsize hby hzs hsz v l0.length (l0.flatMap enc) hs hown ⟨B,0,none⟩ 1 c (enc y) hx (by rw [hk,Nat.one_mul]) ?_ (h1 y) h63 hbytes hbase ?_
 ·intro j u hu;obtain ⟨b,off,ha,_,hc⟩:=hl 0 y rfl;cases ha
  have:=hc j u hu;unfold Addr.add;split
  ·rename_i h0;rw [h0] at this;simpa using this
  ·simpa using this
 ·intro v' w' h2 h3 _ h5;exact h v' w' (by simpa using h2) h3 h5
end Go.Proofs.YtdfelohjdkcpkaaGreatDoor
namespace Go.Proofs.YtdfelohjdkcpkaaGreatDoor
open Go.ChangeShapes Go.WideShapes Go.ChangeAt Go.RowKit Go.Deep
theorem own:ownKnob Tryz.prog.godebug = none:=by kernel_rfl
theorem laidOut:laidOutB Tryz.prog = true:=by kernel_rfl
theorem star : "*" ++ "errors.errorString" = "*errors.errorString" := by decide
theorem rowErr (u : TypeId) (h : Tryz.prog.typeName? 3 u = some "*errors.errorString") : u = 384 :=
 typeName_ptr_named (nm := "errors.errorString") (by rw [star]; kernel_rfl) (by kernel_rfl) (by decide) u (by rw [star]; exact h)
theorem cellsErr:Tryz.prog.cellsOf 400 = 1:=by kernel_rfl
theorem cellsStr:Tryz.prog.cellsOf 9 = 1:=by kernel_rfl
def sent (x : Nat × String × List UInt8) : String × DataW Unit := (x.2.1, .iface "*errors.errorString" (.ptr (.agg [.lit (.string x.2.2)])))
set_option maxRecDepth 100000 in
theorem sents_read {W:World} (L:List (Nat × String × List UInt8)) (hok:(L.all fun x => Tryz.prog.globalNamed x.2.1 == some x.1 && (Tryz.prog.globals[x.1]?).map (·.type) == some 74) = true):∀ ps,DataW.LaidVars Tryz.prog W (L.map sent) ps →
 (∀ b off,MemPlace.cell b off ∈ ps→(∃ c t,W.heap[b]? = some (.cells c t (0,0)))∧∀ u v,W.cell? ⟨b,off,none⟩ = some (.iface u v)→Value.okWide Tryz.prog W .any 0 u v) →
 ps.Nodup→∃ E:Nat→Addr,(∀ x ∈ L,W.cell? ⟨x.1,0,none⟩ = some (errAt E x.1)∧MemPlace.cell (E x.1).block (E x.1).off ∈ ps∧(E x.1).spot = none∧MemPlace.cell x.1 0 ∈ ps)∧∀ x ∈ L,∀ y ∈ L,x.1 ≠ y.1→E x.1 ≠ E y.1:=by
 induction L with
 | nil => intro ps _ _ _;exact ⟨fun _ => ⟨0,0,none⟩,(fun _ h => by cases h),(fun _ h => by cases h)⟩
 | cons x r ih =>
  intro ps h hrows hnd;simp only [List.all_cons,Bool.and_eq_true] at hok;obtain ⟨hx,hr⟩:=hok;simp only [beq_iff_eq] at hx;obtain ⟨g0,t0,cs0,f0,p0,q0,hg0,ht0,hv0,hd0,hq,e0⟩:=h;obtain rfl:=Option.some.inj (hx.1.symm.trans hg0);obtain rfl:=Option.some.inj (hx.2.symm.trans ht0);obtain ⟨l0⟩:=cs0;have ok0:∀ u v,l0 = [.iface u v]→Value.okWide Tryz.prog W .any 0 u v:=fun u v e => by
   subst e;subst e0;exact (hrows x.1 0 (by simp [MemPlace.row])).2 u v (by simpa using World.var?_cell hg0 hv0 0)
  obtain ⟨a0,s0,rfl,hc0,hs0,hz0,rfl⟩:=errorString_of_trod Tryz.underlying74 rowErr Tryz.underlying384 Tryz.underlying400 rfl rfl Tryz.underlying9 cellsErr cellsStr hd0 ok0;have hspot:a0.spot = none:=by
   unfold World.cell? at hc0;split at hc0
   ·split at hc0
    ·cases hc0
    ·rename_i hh;simpa using hh
   ·cases hc0
  subst e0;have m0:MemPlace.cell a0.block a0.off ∈ MemPlace.row ⟨x.1,0,none⟩ 1 ++ MemPlace.row a0 1 ++ q0:=by simp [MemPlace.row]
  have m1:MemPlace.cell x.1 0 ∈ MemPlace.row ⟨x.1,0,none⟩ 1 ++ MemPlace.row a0 1 ++ q0:=by simp [MemPlace.row]
  have sub:∀ p ∈ q0,p ∈ MemPlace.row ⟨x.1,0,none⟩ 1 ++ MemPlace.row a0 1 ++ q0:=fun p hp => List.mem_append_right _ hp
  have ndq:q0.Nodup:=List.Nodup.sublist (List.sublist_append_right _ _) hnd;obtain ⟨E,hE,hne⟩:=ih hr q0 hq (fun b off hm => hrows b off (sub _ hm)) ndq;have notin:∀ y ∈ r,E y.1 ≠ a0:=fun y hy e => by
   have hm:=(hE y hy).2.1;rw [e] at hm;rw [List.append_assoc,List.nodup_append,List.nodup_append] at hnd;exact hnd.2.1.2.2 _ (by simp [MemPlace.row]) _ hm rfl
  refine ⟨fun g => if g = x.1 then a0 else E g,fun y hy => ?_,fun y hy z hz hyz => ?_⟩
  ·by_cases hyx:y.1 = x.1
   ·simp only [hyx,if_true,errAt];exact ⟨by simpa using World.var?_cell hg0 hv0 0,m0,hspot,m1⟩
   ·have hyr:y ∈ r:=by
     rcases List.mem_cons.1 hy with rfl | h
     ·exact absurd rfl hyx
     ·exact h
    have:=hE y hyr;simp only [hyx,if_false,errAt];exact ⟨this.1,sub _ this.2.1,this.2.2.1,sub _ this.2.2.2⟩
  ·have inr:∀ y ∈ x :: r,y.1 ≠ x.1→y ∈ r:=fun y hy hyx => by
    rcases List.mem_cons.1 hy with rfl | h
    ·exact absurd rfl hyx
    ·exact h
   by_cases hyx:y.1 = x.1
   ·have hzx:z.1 ≠ x.1:=fun e => hyz (hyx.trans e.symm)
    simp only [hyx,hzx,if_true,if_false];exact fun e => notin z (inr z hz hzx) e.symm
   ·by_cases hzx:z.1 = x.1
    ·simp only [hyx,hzx,if_true,if_false];exact notin y (inr y hy hyx)
    ·simp only [hyx,hzx,if_false];exact hne y (inr y hy hyx) z (inr z hz hzx) hyz
theorem eat_of_laid {W:World} (L:List (Nat × String × List UInt8)) (hok:(L.all fun x => Tryz.prog.globalNamed x.2.1 == some x.1 && (Tryz.prog.globals[x.1]?).map (·.type) == some 74) = true) (hpl:((L.map sent).all fun x => x.2.handleName?.isNone) = true) (h:laidMetH Tryz.prog (L.map sent) W) :
 ∃ E,EAt (L.map (·.1)) E W:=by
 rw [MakeChecks.laidMetH_plain _ _ _ hpl] at h;obtain ⟨ps,hv,hnd,hrows⟩:=h;obtain ⟨E,hE,hne⟩:=sents_read L hok ps hv hrows hnd;have get:∀ g,g ∈ L.map (·.1)→∃ x ∈ L,x.1 = g:=fun g hg => by simpa using hg
 have lt_of:∀ b off,MemPlace.cell b off ∈ ps→b < W.heap.size:=fun b off hm => by
  obtain ⟨c,t,e⟩:=(hrows b off hm).1;exact (Array.getElem?_eq_some_iff.1 e).1
 refine ⟨E,⟨fun g hg => ?_,fun g hg => ?_,fun g hg => ?_,fun g hg => ?_,fun g k hg hk hn => ?_⟩⟩
 ·obtain ⟨x,hx,rfl⟩:=get g hg;exact lt_of _ _ (hE x hx).2.2.2
 ·obtain ⟨x,hx,rfl⟩:=get g hg;exact lt_of _ _ (hE x hx).2.1
 ·obtain ⟨x,hx,rfl⟩:=get g hg;exact (hE x hx).1
 ·obtain ⟨x,hx,rfl⟩:=get g hg;exact (hrows _ _ (hE x hx).2.1).1
 ·obtain ⟨x,hx,rfl⟩:=get g hg;obtain ⟨y,hy,rfl⟩:=get k hk;exact hne x hx y hy hn
section
variable {H:Type} {enc:TypeId × Value→H} {P:Program} {w:World} {base:Nat} {spare:Nat→Bool} {held:Bool}
end
end Go.Proofs.YtdfelohjdkcpkaaGreatDoor
namespace Go.Proofs.YtdfelohjdkcpkaaGreatDoor
open Go.RowKit
def hiW (n:Int):Int:=n / 18446744073709551616
def loW (n:Int):Int:=n % 18446744073709551616
theorem word_eq (n:Int):hiW n * 18446744073709551616 + loW n = n:=by unfold hiW loW;omega
theorem loW_bd (n:Int):0≤loW n∧loW n < 18446744073709551616:=by unfold loW;omega
theorem hiW_bd (n:Int) (h:0≤n) (h':n < 340282366920938463463374607431768211456):0≤hiW n∧hiW n < 18446744073709551616:=by unfold hiW;omega
def Word (x:Int):Prop:=0≤x∧x < 18446744073709551616
def Wide (x:Int):Prop:=0≤x∧x < 340282366920938463463374607431768211456
theorem word_lo (n:Int):Word (loW n):=loW_bd n
theorem word_hi {n:Int} (h:Wide n):Word (hiW n):=hiW_bd n h.1 h.2
theorem mul64_hi (x y:Int) (hx:Word x) (hy:Word y) :
 (((x / 4294967296 * (y / 4294967296)) % 18446744073709551616 +
  (((x / 4294967296 * (y % 4294967296)) % 18446744073709551616 + ((x % 4294967296 * (y % 4294967296)) % 18446744073709551616) / 4294967296) % 18446744073709551616) / 4294967296) % 18446744073709551616 +
  (((((x / 4294967296 * (y % 4294967296)) % 18446744073709551616 + ((x % 4294967296 * (y % 4294967296)) % 18446744073709551616) / 4294967296) % 18446744073709551616) % 4294967296 +
   (x % 4294967296 * (y / 4294967296)) % 18446744073709551616) % 18446744073709551616) / 4294967296) % 18446744073709551616 = hiW (x * y):=mul64_arith x y hx.1 hx.2 hy.1 hy.2
set_option maxHeartbeats 400000 in
theorem mul64_any (x y:Int) (w:World) (hx:Word x) (hy:Word y) :
 Calls Tryz.prog 262 #[.int .u64 x,.int .u64 y] w fun e w' => e = .returned (.tuple #[.int .u64 (hiW (x * y)),.int .u64 (loW (x * y))])∧w = w':=by
 have H:=mul64_hi x y hx hy;have H:=Lib.hid H;obtain ⟨h1,h2⟩:=hx;obtain ⟨h3,h4⟩:=hy;go_enter Tryz.func262,Tryz.ntmps262;go_wp2;go_ret2;refine ⟨ret2 ?_ ?_,rfl⟩
 ·show IntKind.u64.wrap _ = _;rw [← H.out];rw [and_low32 x h1 h2,and_low32 y h3 h4];simp only [IntKind.wrap_u64];rw [and_low32 _ (by omega) (by omega)]
 ·show IntKind.u64.wrap _ = _;rw [IntKind.wrap_u64];rfl
theorem add64_run (x y c:Int) (hx:0≤x) (hy:0≤y) (hc0:0≤c) (hc:c≤1) (w:World):(callFunc 263 #[.int .u64 x,.int .u64 y,.int .u64 c]).run Tryz.prog w =
 .ok (.value (.tuple #[.int .u64 (loW (x + y + c)),.int .u64 (hiW (x + y + c))])) w:=by
 rw [run_callFunc_extern Tryz.func263 (by kernel_rfl) (by kernel_rfl) (by kernel_rfl) (e:=add64Entry) (by kernel_rfl),run_add64 x y c hx hy hc0 hc];rfl
theorem add64_run0 (x y:Int) (hx:0≤x) (hy:0≤y) (w:World):(callFunc 263 #[.int .u64 x,.int .u64 y,.int .u64 0]).run Tryz.prog w =
 .ok (.value (.tuple #[.int .u64 (loW (x + y)),.int .u64 (hiW (x + y))])) w:=by
 simpa using add64_run x y 0 hx hy (Int.le_refl 0) (by decide) w
theorem mul_words (a n:Int) (ha:Wide a) (hn:Word n) (hp:Wide (a * n)) :
 hiW (hiW a * n) = 0∧hiW (loW (hiW a * n) + hiW (loW a * n)) = 0∧loW (loW (hiW a * n) + hiW (loW a * n)) = hiW (a * n)∧loW (loW a * n) = loW (a * n)∧0≤hiW (loW a * n):=by
 have ea:a * n = hiW a * n * 18446744073709551616 + loW a * n:=by
  conv => lhs;rw [← word_eq a]
  rw [Int.add_mul,Int.mul_assoc,Int.mul_comm 18446744073709551616 n,← Int.mul_assoc]
 have h1:0≤hiW a * n:=Int.mul_nonneg (word_hi ha).1 hn.1;have h2:0≤loW a * n:=Int.mul_nonneg (word_lo a).1 hn.1;rw [ea] at hp ⊢;generalize hiW a * n = p at *;generalize loW a * n = q at *;obtain ⟨hp1,hp2⟩:=hp;unfold hiW loW;omega
set_option maxHeartbeats 400000 in
theorem mul_any (a n:Int) (w:World) (ha:Wide a) (hn:Word n) (hp:Wide (a * n)) :
 Calls Tryz.prog 236 #[.agg #[.int .u64 (hiW a),.int .u64 (loW a)],.int .u64 n] w fun e w' => e = .returned (.tuple #[.agg #[.int .u64 (hiW (a * n)),.int .u64 (loW (a * n))],.bool true])∧Gr w w':=by
 obtain ⟨e1,e2,e3,e4,b2⟩:=mul_words a n ha hn hp;have E3:=Lib.hid e3;clear e3;have E4:=Lib.hid e4;clear e4;have b1:=(loW_bd (hiW a * n)).1;have hl:=word_lo a;have hh:=word_hi ha;go_enter Tryz.func236,Tryz.ntmps236;go_wp2_with fail;refine (mul64_any _ _ _ hl hn).mono ?_;rintro e w' ⟨rfl,rfl⟩;go_wp2_with fail;refine (mul64_any _ _ _ hh hn).mono ?_;rintro e w' ⟨rfl,rfl⟩;go_wp2_with (simp only [add64_run0 _ _ b1 b2]);refine bodyPost_ret (v:=.tuple #[.agg #[.int .u64 (hiW (a * n)),.int .u64 (loW (a * n))],.bool true]) (by simp [results,Tryz.results236,go_sem,E3.out,E4.out]) rfl ⟨rfl,?_⟩;repeat (first | exact Gr.refl _ | apply Gr.alloc)
theorem add_words (a b:Int) (ha:Wide a) (hb:Wide b) (hp:Wide (a + b)) :
 hiW (hiW a + hiW b + hiW (loW a + loW b)) = 0∧loW (hiW a + hiW b + hiW (loW a + loW b)) = hiW (a + b)∧loW (loW a + loW b) = loW (a + b)∧0≤hiW (loW a + loW b)∧hiW (loW a + loW b)≤1:=by
 obtain ⟨ha1,ha2⟩:=ha;obtain ⟨hb1,hb2⟩:=hb;obtain ⟨hp1,hp2⟩:=hp;unfold hiW loW;omega
set_option maxHeartbeats 400000 in
theorem add_any (a b:Int) (w:World) (ha:Wide a) (hb:Wide b) (hp:Wide (a + b)) :
 Calls Tryz.prog 237 #[.agg #[.int .u64 (hiW a),.int .u64 (loW a)],.agg #[.int .u64 (hiW b),.int .u64 (loW b)]] w fun e w' => e = .returned (.tuple #[.agg #[.int .u64 (hiW (a + b)),.int .u64 (loW (a + b))],.bool true])∧Gr w w':=by
 obtain ⟨e1,e2,e3,b2,b3⟩:=add_words a b ha hb hp;have E2:=Lib.hid e2;clear e2;have E3:=Lib.hid e3;clear e3;have l1:=(word_lo a).1;have l2:=(word_lo b).1;have l3:=(word_hi ha).1;have l4:=(word_hi hb).1;go_enter Tryz.func237,Tryz.ntmps237;go_wp2_with (first | simp only [add64_run0 _ _ l1 l2] | simp only [add64_run _ _ _ l3 l4 b2 b3]);refine bodyPost_ret (v:=.tuple #[.agg #[.int .u64 (hiW (a + b)),.int .u64 (loW (a + b))],.bool true]) (by simp [results,Tryz.results237,go_sem,E2.out,E3.out]) rfl ⟨rfl,?_⟩;repeat (first | exact Gr.refl _ | apply Gr.alloc)
set_option maxHeartbeats 400000 in
theorem of_any (n:Int) (w:World) :
 Calls Tryz.prog 260 #[.int .u64 n] w fun e w' => e = .returned (.agg #[.int .u64 0,.int .u64 n])∧Gr w w':=by
 go_enter Tryz.func260,Tryz.ntmps260;go_wp2;refine bodyPost_ret (v:=.agg #[.int .u64 0,.int .u64 n]) (by simp [results,Tryz.results260,go_sem]) rfl ⟨rfl,?_⟩;repeat (first | exact Gr.refl _ | apply Gr.alloc)
theorem wide_ne (d:Int) (hd:Wide d) (h0:0 < d):0 < hiW d + loW d∧0≤hiW d∧0≤loW d:=by
 have:=word_eq d;have:=word_lo d;have:=word_hi hd;unfold Word at *;omega
set_option maxHeartbeats 400000 in
theorem legal_any (n d q t:Int) (w:World) (hd:Wide d) (h0:0 < d) (hq:0≤q) (ht:1≤t) :
 Calls Tryz.prog 261 #[.agg #[.int .u64 (hiW n),.int .u64 (loW n),.int .u64 (hiW d),.int .u64 (loW d)],.int .i64 q,.int .i64 t] w fun e w' => e = .returned (.bool true)∧Gr w w':=by
 obtain ⟨hn1,hn2,hn3⟩:=wide_ne d hd h0;go_enter Tryz.func261,Tryz.ntmps261;go_wp2;all_goals (go_ret;exact ⟨rfl,(Gr.refl _).alloc _⟩)
set_option maxHeartbeats 800000 in
theorem plus_any (n d q t:Int) (w:World) (hn:Wide n) (hd:Wide d) (h0:0 < d) (hq:0≤q) (hq':q≤4294967296) (ht:1≤t) (ht':t≤4294967296) (h1:Wide (n * t + d * q)) (h2:Wide (d * t)) :
 Calls Tryz.prog 233 #[.agg #[.int .u64 (hiW n),.int .u64 (loW n),.int .u64 (hiW d),.int .u64 (loW d)],.int .i64 q,.int .i64 t] w fun e w' => e = .returned (.tuple #[.agg #[.int .u64 (hiW (n * t + d * q)),.int .u64 (loW (n * t + d * q)),.int .u64 (hiW (d * t)),.int .u64 (loW (d * t))],.bool true])∧Gr w w':=by
 have wq:Word q:=⟨hq,by omega⟩
 have wt:Word t:=⟨by omega,by omega⟩
 have p1:0≤n * t:=Int.mul_nonneg hn.1 wt.1;have p2:0≤d * q:=Int.mul_nonneg hd.1 hq;have w1:Wide (n * t):=⟨p1,by have:=h1.2;omega⟩
 have w2:Wide (d * q):=⟨p2,by have:=h1.2;omega⟩
 go_enter Tryz.func233,Tryz.ntmps233;go_wp2_with fail;refine (legal_any n d q t _ hd h0 hq ht).mono ?_;rintro e wa ⟨rfl,ga⟩;obtain ⟨ca,fa,sa⟩:=ga.cells;try simp only [size_drewN] at ca fa sa
 try simp only [World.size_alloc] at ca fa sa
 try simp only [World.size_drew] at ca fa sa
 try simp only [World.size_setCell] at ca fa sa
 have za0:w.heap.size < wa.heap.size:=by omega
 have ya0:w.heap.size≤wa.heap.size:=by omega
 have ka0:=fun o => ca (w.heap.size) o (by omega)
 have ja0:=fun o => fa (w.heap.size) o (by omega)
 have za1:w.heap.size + 1 < wa.heap.size:=by omega
 have ka1:=fun o => ca (w.heap.size + 1) o (by omega)
 have ja1:=fun o => fa (w.heap.size + 1) o (by omega)
 go_wp2_with fail;refine (mul_any n t _ hn wt w1).mono ?_;rintro e wb ⟨rfl,gb⟩;obtain ⟨cb,fb,sb⟩:=gb.cells;try simp only [size_drewN] at cb fb sb
 try simp only [World.size_alloc] at cb fb sb
 try simp only [World.size_drew] at cb fb sb
 try simp only [World.size_setCell] at cb fb sb
 have zb0:w.heap.size < wb.heap.size:=by omega
 have yb0:w.heap.size≤wb.heap.size:=by omega
 have kb0:=fun o => cb (w.heap.size) o (by omega)
 have jb0:=fun o => fb (w.heap.size) o (by omega)
 have zb1:w.heap.size + 1 < wb.heap.size:=by omega
 have kb1:=fun o => cb (w.heap.size + 1) o (by omega)
 have jb1:=fun o => fb (w.heap.size + 1) o (by omega)
 go_wp2_with fail;refine (mul_any d q _ hd wq w2).mono ?_;rintro e wc ⟨rfl,gc⟩;obtain ⟨cc,fc,sc⟩:=gc.cells;try simp only [size_drewN] at cc fc sc
 try simp only [World.size_alloc] at cc fc sc
 try simp only [World.size_drew] at cc fc sc
 try simp only [World.size_setCell] at cc fc sc
 have zc0:w.heap.size < wc.heap.size:=by omega
 have yc0:w.heap.size≤wc.heap.size:=by omega
 have kc0:=fun o => cc (w.heap.size) o (by omega)
 have jc0:=fun o => fc (w.heap.size) o (by omega)
 have zc1:w.heap.size + 1 < wc.heap.size:=by omega
 have kc1:=fun o => cc (w.heap.size + 1) o (by omega)
 have jc1:=fun o => fc (w.heap.size + 1) o (by omega)
 have zc2:wb.heap.size < wc.heap.size:=by omega
 have yc2:wb.heap.size≤wc.heap.size:=by omega
 have kc2:=fun o => cc (wb.heap.size) o (by omega)
 have jc2:=fun o => fc (wb.heap.size) o (by omega)
 go_wp2_with fail;refine (add_any (n * t) (d * q) _ w1 w2 h1).mono ?_;rintro e wd ⟨rfl,gd⟩;obtain ⟨cd,fd,sd⟩:=gd.cells;try simp only [size_drewN] at cd fd sd
 try simp only [World.size_alloc] at cd fd sd
 try simp only [World.size_drew] at cd fd sd
 try simp only [World.size_setCell] at cd fd sd
 have zd0:w.heap.size < wd.heap.size:=by omega
 have yd0:w.heap.size≤wd.heap.size:=by omega
 have kd0:=fun o => cd (w.heap.size) o (by omega)
 have jd0:=fun o => fd (w.heap.size) o (by omega)
 have zd1:w.heap.size + 1 < wd.heap.size:=by omega
 have kd1:=fun o => cd (w.heap.size + 1) o (by omega)
 have jd1:=fun o => fd (w.heap.size + 1) o (by omega)
 have zd2:wb.heap.size < wd.heap.size:=by omega
 have yd2:wb.heap.size≤wd.heap.size:=by omega
 have kd2:=fun o => cd (wb.heap.size) o (by omega)
 have jd2:=fun o => fd (wb.heap.size) o (by omega)
 have zd3:wc.heap.size < wd.heap.size:=by omega
 have yd3:wc.heap.size≤wd.heap.size:=by omega
 have kd3:=fun o => cd (wc.heap.size) o (by omega)
 have jd3:=fun o => fd (wc.heap.size) o (by omega)
 go_wp2_with fail;refine (mul_any d t _ hd wt h2).mono ?_;rintro e wk ⟨rfl,gk⟩;obtain ⟨ck,fk,sk⟩:=gk.cells;try simp only [size_drewN] at ck fk sk
 try simp only [World.size_alloc] at ck fk sk
 try simp only [World.size_drew] at ck fk sk
 try simp only [World.size_setCell] at ck fk sk
 have zk0:w.heap.size < wk.heap.size:=by omega
 have yk0:w.heap.size≤wk.heap.size:=by omega
 have kk0:=fun o => ck (w.heap.size) o (by omega)
 have jk0:=fun o => fk (w.heap.size) o (by omega)
 have zk1:w.heap.size + 1 < wk.heap.size:=by omega
 have kk1:=fun o => ck (w.heap.size + 1) o (by omega)
 have jk1:=fun o => fk (w.heap.size + 1) o (by omega)
 have zk2:wb.heap.size < wk.heap.size:=by omega
 have yk2:wb.heap.size≤wk.heap.size:=by omega
 have kk2:=fun o => ck (wb.heap.size) o (by omega)
 have jk2:=fun o => fk (wb.heap.size) o (by omega)
 have zk3:wc.heap.size < wk.heap.size:=by omega
 have yk3:wc.heap.size≤wk.heap.size:=by omega
 have kk3:=fun o => ck (wc.heap.size) o (by omega)
 have jk3:=fun o => fk (wc.heap.size) o (by omega)
 have zk4:wd.heap.size < wk.heap.size:=by omega
 have yk4:wd.heap.size≤wk.heap.size:=by omega
 have kk4:=fun o => ck (wd.heap.size) o (by omega)
 have jk4:=fun o => fk (wd.heap.size) o (by omega)
 go_wp2_with fail;refine bodyPost_ret (v:=.tuple #[.agg #[.int .u64 (hiW (n * t + d * q)),.int .u64 (loW (n * t + d * q)),.int .u64 (hiW (d * t)),.int .u64 (loW (d * t))],.bool true]) (by simp [results,Tryz.results233,go_sem, *]) rfl ⟨rfl,?_⟩;repeat (first | exact Gr.refl _ | apply Gr.alloc | apply Gr.drew | apply Gr.drewN | (refine Gr.setCell ?_ (by simp) _) | (refine Gr.trans ?_ (by assumption)))
def cmpI (x y:Int):Int:=if x < y then -1 else if y < x then 1 else 0
def orI (x y:Int):Int:=if x = 0 then y else x
set_option maxHeartbeats 400000 in
theorem cmp64_any (x y:Int) (w:World) :
 Calls Tryz.prog 272 #[.int .u64 x,.int .u64 y] w fun e w' => e = .returned (.int .i64 (cmpI x y))∧w = w':=by
 unfold cmpI;go_enter Tryz.func272,Tryz.ntmps272;go_wp2;all_goals (go_ret;exact ⟨ret1 (by simp [*]),rfl⟩)
set_option maxHeartbeats 400000 in
theorem or_any (x y:Int) (b:Nat) (w:World) (h0:w.cell? ⟨b,0,none⟩ = some (.int .i64 x)) (h1:w.cell? ⟨b,1,none⟩ = some (.int .i64 y)) :
 Calls Tryz.prog 138 #[.slice (some ⟨b,0,none⟩) 2 2] w fun e w' => e = .returned (.int .i64 (orI x y))∧w = w':=by
 unfold orI;by_cases hx:x = 0
 ·subst hx;rw [if_pos rfl];by_cases hy:y = 0
  ·subst hy;go_enter Tryz.func138,Tryz.ntmps138;go_wp2;refine wp_loop_rounds 3 ?_;rw [rounds_succ];go_wp2;rw [rounds_succ];go_wp2;rw [rounds_succ];go_wp2;go_ret;exact ⟨rfl,rfl⟩
  ·have hy':(y == 0) = false:=by simpa using hy
   have hy2:(y != 0) = true:=by simpa using hy
   go_enter Tryz.func138,Tryz.ntmps138;go_wp2;refine wp_loop_rounds 3 ?_;rw [rounds_succ];go_wp2;rw [rounds_succ];go_wp2;go_ret;exact ⟨rfl,rfl⟩
 ·rw [if_neg hx];have hy2:(x != 0) = true:=by simpa using hx
  go_enter Tryz.func138,Tryz.ntmps138;go_wp2;refine wp_loop_rounds 3 ?_;rw [rounds_succ];go_wp2;go_ret;exact ⟨rfl,rfl⟩
set_option maxHeartbeats 800000 in
theorem compare_any (a b:Int) (w:World) :
 Calls Tryz.prog 264 #[.agg #[.int .u64 (hiW a),.int .u64 (loW a)],.agg #[.int .u64 (hiW b),.int .u64 (loW b)]] w fun e w' => e = .returned (.int .i64 (orI (cmpI (hiW a) (hiW b)) (cmpI (loW a) (loW b))))∧Gr w w':=by
 go_enter Tryz.func264,Tryz.ntmps264;go_wp2;go_region_held3 (fun w' => w'.cell? ⟨w.heap.size,0,none⟩ = some (.int .u64 (hiW a))∧w'.cell? ⟨w.heap.size,1,none⟩ = some (.int .u64 (loW a))∧w'.cell? ⟨w.heap.size + 1,0,none⟩ = some (.int .u64 (hiW b))∧w'.cell? ⟨w.heap.size + 1,1,none⟩ = some (.int .u64 (loW b))) (simp [go_sem,World.cell?_alloc_past])
  (first
   | (go_at_call 272;refine (cmp64_any _ _ _).mono ?_;rintro e w' ⟨rfl,rfl⟩)
   | (go_at_call 138;refine Calls.mono (or_any (cmpI (hiW a) (hiW b)) (cmpI (loW a) (loW b)) _ _ ?_ ?_) ?_;rotate_left 2;rintro e w1 ⟨rfl,rfl⟩;rotate_left 1;simp [go_sem];simp [go_sem]))
 go_wp2;go_ret;refine ⟨rfl,?_⟩;repeat (first | exact Gr.refl _ | apply Gr.alloc | apply Gr.drew | apply Gr.drewN | (refine Gr.setCell ?_ (by simp) _) | (refine Gr.trans ?_ (by assumption)))
end Go.Proofs.YtdfelohjdkcpkaaGreatDoor
namespace Go.Proofs.YtdfelohjdkcpkaaGreatDoor
open Go.RowKit
set_option maxHeartbeats 400000 in
theorem checkServer_yes (k q t:Int) (w:World) (h:(Srv.mk k q t).leg = true) :
 Calls Tryz.prog 158 #[.agg #[.int .i64 k,.int .i64 q,.int .i64 t]] w fun e w' => e = .returned .nilIface∧Gr w w':=by
 have h:=(Srv.leg_iff _).1 h;obtain ⟨h1,h2,h3,h4,h5⟩:=h;dsimp only at h1 h2 h3 h4 h5;go_enter Tryz.func158,Tryz.ntmps158;go_wp2;go_ret;exact ⟨rfl,(Gr.refl _).alloc _⟩
set_option maxHeartbeats 400000 in
theorem checkServer_no {G:List Nat} {E:Nat→Addr} (k q t:Int) (w:World) (hE:EAt G E w) (i0:9 ∈ G) (h:(Srv.mk k q t).leg = false) :
 Calls Tryz.prog 158 #[.agg #[.int .i64 k,.int .i64 q,.int .i64 t]] w fun e w' => e = .returned (Value.iface 384 (.pointer (some (E 9))))∧Gr w w':=by
 have h:¬ (1≤k∧k≤3∧1≤q∧q≤t∧t≤256):=fun x => by rw [(Srv.leg_iff _).2 x] at h;cases h
 have hc:=hE.c0 i0;have hl:=hE.lt 9 i0;by_cases h1:k < 1 ∨ 3 < k ∨ q < 1 ∨ t < q;all_goals
  go_enter Tryz.func158,Tryz.ntmps158;go_wp2
 all_goals (go_ret;exact ⟨rfl,(Gr.refl _).alloc _⟩)
end Go.Proofs.YtdfelohjdkcpkaaGreatDoor
namespace Go.Proofs.YtdfelohjdkcpkaaGreatDoor
open Go.RowKit
def errNos:List Nat:=[1,2,3,4,0,5,6,7,8,9,10,11,12,13,14,15]
def numI (g:Nat):Int:=(errNos.idxOf g:Int) + 1
end Go.Proofs.YtdfelohjdkcpkaaGreatDoor
