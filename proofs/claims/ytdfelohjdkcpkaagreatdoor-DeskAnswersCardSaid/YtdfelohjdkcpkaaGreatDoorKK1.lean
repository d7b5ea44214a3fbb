/- Lists of records in memory: reading, owning, appending. Nothing of the program is named here. -/
import Derived.WalkKit
import Derived.Laws.AppendOwnNone
import Derived.BigQuiet
import Derived.Deep.QuietTactic
import Derived.Test.YtdfelohjdkcpkaaGreatDoorRows
import Derived.WalkSpells
import Derived.WalkLawsBesides
import Derived.Lib.Hide
import Derived.Deep.RegionHeld3
import Derived.Deep.DrawnRows
import Derived.Deep.DeepFit
import Derived.LaidEql
import Derived.Laws.Rows
import Derived.Laws.IdiomCopy
import Derived.Maps.AppendAt
import Derived.OneCell
set_option maxHeartbeats 800000
namespace Go.Proofs.YtdfelohjdkcpkaaGreatDoor
open Go.RowKit
def Gr (w w':World):Prop:=Below w.heap.size w w'
theorem Gr.refl (w:World):Gr w w:=Below.refl _ _
theorem Gr.alloc {w a:World} (h:Gr w a) (o:Obj):Gr w (a.alloc o):=Below.alloc h h.size o
theorem Gr.drew {w a:World} (h:Gr w a):Gr w a.drew:=Below.drew h
theorem Gr.drewN {w a:World} (h:Gr w a) (n:Nat):Gr w (a.drewN n):=⟨h.os,h.tape,h.output,h.size,h.block⟩
theorem Gr.trans {w a b:World} (h:Gr w a) (k:Gr a b):Gr w b:=Below.trans h (Below.mono k h.size)
theorem Gr.setCell {w a:World} (h:Gr w a) {p:Addr} (hp:w.heap.size≤p.block) (u:Value):Gr w (a.setCell p u):=Below.setCell h hp u
theorem Gr.grown {w a w':World} {row:Option Nat} (h:Gr w a) (hg:a.grownBy w' row) (hr:∀ k,row = some k→w.heap.size≤k):Gr w w':=Below.grown h hg (Below.size h) hr
theorem Gr.size {w a:World} (h:Gr w a):w.heap.size≤a.heap.size:=Below.size h
theorem Gr.cells {W w1:World} (hb:Gr W w1):(∀ b o,b < W.heap.size→w1.cell? ⟨b,o,none⟩ = W.cell? ⟨b,o,none⟩)∧(∀ b o,b < W.heap.size→w1.frozen? ⟨b,o,none⟩ = W.frozen? ⟨b,o,none⟩)∧W.heap.size≤w1.heap.size :=
 ⟨fun b o h => Below.cell hb (p:=⟨b,o,none⟩) h,fun b o h => Below.frozen hb (p:=⟨b,o,none⟩) h,hb.size⟩
theorem BG {B:Nat} {w:World} (h:B≤w.heap.size) (o:Obj):B≤(w.alloc o).heap.size:=by simp;omega
structure AB (w:World) where
 to:World
 gr:Gr w to
theorem AB.of {w w':World} (h:∃ x:AB w,w' = x.to):Gr w w':=by obtain ⟨x,rfl⟩:=h;exact x.gr
instance (w:World):Nonempty (AB w):=⟨⟨w,Gr.refl w⟩⟩
theorem AB.cell {w:World} {b o:Nat} {v:Value} (h:w.cell? ⟨b,o,none⟩ = some v):∀ x:AB w,x.to.cell? ⟨b,o,none⟩ = some v:=by
 intro x;have hb:b < w.heap.size:=by
  unfold World.cell? at h;split at h
  ·rename_i hb;exact (Array.getElem?_eq_some_iff.1 hb).1
  ·cases h
 rw [x.gr.cells.1 b o hb];exact h
theorem Ap {P:Program} {id:Nat} {Q:Exit→Act→World→Prop} {a:Act} {w:World} {l:List Oper} (hm:P.follows .mixedOrders = true) (hB:Region.lexB .any l.toArray = true)
 (h:wpQuiet P l.toArray (fun w' => ∃ x:AB w,w' = x.to) (fun a' => ∀ w',(∃ x:AB w,w' = x.to)→Q .normal a' w') l a):(Code.region id l.toArray true).wp P Q a w :=
 wp_region_quiet (C:=fun w' => ∃ x:AB w,w' = x.to) hm hB ⟨⟨_,(Gr.refl w).drew⟩,rfl⟩ (by simpa using h)
theorem Calls.grows {P:Program} {f:FuncId} {args:Array Value} {w:World} {x:AB w} {v:Value}
 (h:Calls P f args x.to fun e w' => e = .returned v∧Gr x.to w'):Calls P f args x.to fun e w'' => e = .returned v∧∃ y:AB w,w'' = y.to :=
 h.mono fun _ w'' ⟨he,hg⟩ => ⟨he,⟨w'',x.gr.trans hg⟩,rfl⟩
theorem Calls.grows_same {P:Program} {f:FuncId} {args:Array Value} {w:World} {x:AB w} {v:Value}
 (h:Calls P f args x.to fun e w' => e = .returned v∧x.to = w'):Calls P f args x.to fun e w'' => e = .returned v∧∃ y:AB w,w'' = y.to :=
 h.mono fun _ _ ⟨he,hg⟩ => ⟨he,x,hg.symm⟩
def Al {α:Type} (k:Nat) (enc:α→List Value) (w:World) (a:Option Addr) (l:List α):Prop :=
 ∀ (i:Nat) (s:α),l[i]? = some s→∃ b off,a = some ⟨b,off,none⟩∧b < w.heap.size∧∀ (j:Nat) (u:Value),(enc s)[j]? = some u→w.cell? ⟨b,off + i * k + j,none⟩ = some u
section
variable {α:Type} {k:Nat} {enc:α→List Value}
theorem BZ (hk:∀ s,(enc s).length = k) (l:List α):(l.flatMap enc).length = l.length * k:=by
 induction l with
 | nil => simp
 | cons s r ih => rw [List.flatMap_cons,List.length_append,ih,hk,List.length_cons,Nat.add_mul,Nat.one_mul,Nat.add_comm]
theorem FA (hk:∀ s,(enc s).length = k):∀ (l:List α) (i:Nat) (s:α) (j:Nat) (u:Value),l[i]? = some s→(enc s)[j]? = some u→(l.flatMap enc)[i * k + j]? = some u:=by
 intro l;induction l with
 | nil => intro i s j u h;simp at h
 | cons x r ih =>
  intro i s j u h hu;rw [List.flatMap_cons];cases i with
  | zero =>
   obtain rfl:x = s:=by simpa using h
   have hj:j < (enc x).length:=(List.getElem?_eq_some_iff.1 hu).1;rw [Nat.zero_mul,Nat.zero_add,List.getElem?_append_left hj];exact hu
  | succ i =>
   have h':r[i]? = some s:=by simpa using h
   rw [List.getElem?_append_right (by rw [hk,Nat.add_mul];omega),hk,show (i + 1) * k + j - k = i * k + j by rw [Nat.add_mul];omega];exact ih i s j u h' hu
theorem Jm (hk:∀ s,(enc s).length = k) (hp:0 < k) (l:List α) (m:Nat) (u:Value) (h:(l.flatMap enc)[m]? = some u):∃ s,l[m / k]? = some s∧(enc s)[m % k]? = some u:=by
 have hm:m < l.length * k:=by rw [← BZ hk l];exact (List.getElem?_eq_some_iff.1 h).1
 have hi:m / k < l.length:=(Nat.div_lt_iff_lt_mul hp).2 hm;have hs:l[m / k]? = some l[m / k]:=List.getElem?_eq_getElem hi;have hj:m % k < (enc l[m / k]).length:=by rw [hk];exact Nat.mod_lt _ hp
 refine ⟨_,hs,?_⟩;have hu:(enc l[m / k])[m % k]? = some (enc l[m / k])[m % k]:=List.getElem?_eq_getElem hj;have:=FA hk l _ _ _ _ hs hu;rw [Nat.mul_comm,Nat.div_add_mod] at this;rw [hu,← this,h]
theorem Al.of_below {w w':World} {B:Nat} {a:Option Addr} {l:List α} (h:Al k enc w a l) (hb:∀ x,a = some x→x.block < B) (g:Below B w w'):Al k enc w' a l:=by
 intro i s hi;obtain ⟨b,off,ha,hlt,hc⟩:=h i s hi;have hB:=hb _ ha;exact ⟨b,off,ha,Nat.lt_of_lt_of_le hlt g.size,fun j u hu => by rw [g.cell (p:=⟨b,off + i * k + j,none⟩) hB];exact hc j u hu⟩
theorem MA {w:World} {a:Option Addr} {l:List α} (h:Al k enc w a l) (n:Nat):Al k enc w a (l.take n):=by
 intro i s hi;rw [List.getElem?_take] at hi;split at hi
 ·exact h i s hi
 ·cases hi
theorem Af {w:World} {base:Nat} {e:TypeId} {v:Value} {l:List α} (hk:∀ s,(enc s).length = k) (h:w.ownsRow base e k v l.length (l.flatMap enc)) :
 ∃ a c,v = .slice a l.length c∧Al k enc w a l∧(a = none→c = 0)∧∀ x,a = some x→base≤x.block:=by
 obtain ⟨_,h | ⟨g,cap,cur,hv,hg,hh,hn,_,hsz,htk⟩⟩:=h
 ·obtain ⟨rfl,hn⟩:=h;obtain rfl:l = []:=List.length_eq_zero_iff.1 hn;exact ⟨none,0,rfl,(fun i s hs => by simp at hs),(fun _ => rfl),(fun x hx => by cases hx)⟩
 ·refine ⟨some ⟨g,0,none⟩,cap,hv,fun i s hi => ⟨g,0,rfl,(Array.getElem?_eq_some_iff.1 hh).1,fun j u hu => ?_⟩,(fun hx => by cases hx),fun x hx => by cases hx;exact hg⟩;have h1:=FA hk l i s j u hi hu;rw [← htk] at h1;rw [List.getElem?_take] at h1;split at h1
  ·rw [World.cell?,hh];simpa using h1
  ·cases h1
theorem A7 {w:World} {base:Nat} {e:TypeId} {size:Nat} {v:Value} {n:Nat} {xs:List Value} (h:w.ownsRow base e size v n xs):∀ k,v.ownBlock = some k→base≤k:=by
 intro k hk;obtain ⟨_,h | ⟨g,cap,cur,hv,hg,_⟩⟩:=h
 ·obtain ⟨rfl,_⟩:=h;simp [Value.ownBlock] at hk
 ·subst hv;simp [Value.ownBlock] at hk;omega
theorem An (hk:∀ s,(enc s).length = k) (w:World) (l:List α) (e:TypeId) (cs:Array Value) (h:cs.toList = l.flatMap enc):Al k enc (w.alloc (.cells cs e)) (some ⟨w.heap.size,0,none⟩) l:=by
 intro i s hi;refine ⟨w.heap.size,0,rfl,by simp,fun j u hu => ?_⟩;have h1:=FA hk l i s j u hi hu;rw [← h] at h1;rw [World.cell?,heap_alloc_new w _,Nat.zero_add];simpa using h1
theorem Ai {P:Program} {w:World} {ops:Array Oper} {rest:List Oper} {o:Oper} {a:Act} {Q:Exit→Act→World→Prop} (hgd:o.guard = none) (s x:Operand) (t:TypeId)
 (ho:o.op = .call { callee:=.builtin .append,args:=#[s,x],argTypes:=#[t,t] })
 (base:Nat) (e:TypeId) (i:TypeInfo) (z:Value) (bytes:Nat) (ht:P.underlying t = some (.slice e)) (hi:P.info? e = some i) (hz:i.zero = some z)
 (hsize:i.size = k) (hby:i.bytes = bytes) (hzs:z.cells.size = k) (hsz:0 < k)
 (hk:∀ s,(enc s).length = k) (h1:∀ s,∀ u ∈ enc s,u.oneCell' = true)
 (v:Value) (l0:List α) (hs:a.eval s = v) (hown:w.ownsRow base e k v l0.length (l0.flatMap enc))
 (sa:Option Addr) (c:Nat) (l:List α) (hx:a.eval x = .slice sa l.length c) (hl:Al k enc w sa l) (hc:sa = none→c = 0)
 (h63:l0.length + l.length≤maxLen) (hbytes:(l0.length + l.length) * bytes≤140737488355328) (hbase:base≤w.heap.size)
 (h:∀ v' w',w'.ownsRow base e k v' (l0 ++ l).length ((l0 ++ l).flatMap enc)→w.grownBy w' v.ownBlock→wpList P ops Q rest (a.put o.dst v') w'):wpList P ops Q (o :: rest) a w:=by
 cases sa with
 | none =>
  obtain rfl:=hc rfl;obtain rfl:l = []:=by
   cases l with
   | nil => rfl
   | cons y r => obtain ⟨b,off,hh,_⟩:=hl 0 y rfl;cases hh
  refine wpList_append_own_none hgd s x t ho base e i k ht hi v l0.length (l0.flatMap enc) hs hown hx ?_;exact h v w (by simpa using hown) ⟨rfl,rfl,rfl,Nat.le_refl _,fun _ _ _ => rfl⟩
 | some ad =>
  refine wpList_append_own w hgd s x t ho base e i z k bytes ht hi hz hsize hby hzs hsz v l0.length (l0.flatMap enc) hs hown ad l.length c (l.flatMap enc) hx (BZ hk l) ?_ ?_ h63 hbytes hbase ?_
  ·intro j u hj;obtain ⟨y,hy,hu⟩:=Jm hk hsz l j u hj;obtain ⟨b,off,hh,_,hcell⟩:=hl _ y hy;obtain rfl:=Option.some.inj hh;have:=hcell _ u hu;have e1:off + j / k * k + j % k = off + j:=by rw [Nat.add_assoc,Nat.mul_comm,Nat.div_add_mod]
   rw [e1] at this;unfold Addr.add;by_cases hj0:j = 0
   ·subst hj0;simpa using this
   ·simpa [hj0] using this
  ·intro u hu;obtain ⟨y,_,hy⟩:=List.mem_flatMap.1 hu;exact h1 y u hy
  ·intro v' w' ho' hg' _;exact h v' w' (by simpa using ho') hg'
theorem Bw (w:World) (e:TypeId) (k:Nat) (o:Obj) (ho:o = .cells #[] e (0,0)) (base:Nat) (hb:base≤w.heap.size):(w.alloc o).ownsRow base e k (.slice (some ⟨w.heap.size,0,none⟩) 0 0) ([]:List α).length (([]:List α).flatMap enc):=by
 subst ho;refine ⟨by simp,.inr ⟨w.heap.size,0,#[],rfl,hb,heap_alloc_new w _,Nat.le_refl _,Nat.zero_le _,by simp,by simp⟩⟩
theorem Mc {P:Program} {w:World} {ops:Array Oper} {rest:List Oper} {o:Oper} {a:Act} {Q:Exit→Act→World→Prop} (hgd:o.guard = none) (s x:Operand) (t:TypeId)
 (ho:o.op = .call { callee:=.builtin .append,args:=#[s,x],argTypes:=#[t,t] })
 (e:TypeId) (i:TypeInfo) (z:Value) (bytes:Nat) (ht:P.underlying t = some (.slice e)) (hi:P.info? e = some i) (hz:i.zero = some z)
 (hsize:i.size = k) (hby:i.bytes = bytes) (hzs:z.cells.size = k) (hsz:0 < k)
 (hk:∀ s,(enc s).length = k) (h1:∀ s,∀ u ∈ enc s,u.oneCell' = true) (hs:a.eval s = .slice (some ⟨w.heap.size,0,none⟩) 0 0)
 (sa:Option Addr) (c:Nat) (l:List α) (hx:a.eval x = .slice sa l.length c) (hl:Al k enc w sa l) (hc:sa = none→c = 0)
 (h63:l.length≤maxLen) (hbytes:l.length * bytes≤140737488355328)
 (h:∀ a' c' w',Al k enc w' a' l→(a' = none→c' = 0)→(∀ x,a' = some x→w.heap.size≤x.block)→Gr w w'→wpList P ops Q rest (a.put o.dst (.slice a' l.length c')) w'):wpList P ops Q (o :: rest) a (w.alloc (.cells #[] e)):=by
 have hl':Al k enc (w.alloc (.cells #[] e)) sa l:=by
  intro i s hi;obtain ⟨b,off,ha,hb,hcl⟩:=hl i s hi;exact ⟨b,off,ha,by simp;omega,fun j u hu => by rw [((Gr.refl w).alloc (.cells #[] e)).cells.1 _ _ hb];exact hcl j u hu⟩
 refine Ai (k:=k) (enc:=enc) hgd s x t ho w.heap.size e i z bytes ht hi hz hsize hby hzs hsz hk h1 (.slice (some ⟨w.heap.size,0,none⟩) 0 0) [] hs (Bw w e k _ rfl _ (Nat.le_refl _)) sa c l hx hl' hc (by simpa using h63) (by simpa using hbytes) (by simp) ?_;intro v' w' hown hgr;obtain ⟨a',c',hv,hr,hn,hB⟩:=Af (l:=[] ++ l) hk hown;rw [hv];exact h a' c' w' hr hn hB (((Gr.refl w).alloc _).grown hgr (by simp [Value.ownBlock]))
end
section
variable {α:Type} {k:Nat} {enc:α→List Value}
theorem Cl {P:Program} {w:World} {ops:Array Oper} {rest:List Oper} {o:Oper} {a:Act} {Q:Exit→Act→World→Prop} (hgd:o.guard = none) (s x:Operand) (t:TypeId)
 (ho:o.op = .call { callee:=.builtin .append,args:=#[s,x],argTypes:=#[t,t] })
 (e:TypeId) (i:TypeInfo) (z:Value) (bytes:Nat) (ht:P.underlying t = some (.slice e)) (hi:P.info? e = some i) (hz:i.zero = some z)
 (hsize:i.size = k) (hby:i.bytes = bytes) (hzs:z.cells.size = k) (hsz:0 < k)
 (hk:∀ s,(enc s).length = k) (h1:∀ s,∀ u ∈ enc s,u.oneCell' = true) (N:Nat) (hN:w.heap.size = N) (hs:a.eval s = .slice (some ⟨N,0,none⟩) 0 0)
 (sa:Option Addr) (c:Nat) (l:List α) (hx:a.eval x = .slice sa l.length c) (hl:Al k enc w sa l) (hc:sa = none→c = 0)
 (h63:l.length≤maxLen) (hbytes:l.length * bytes≤140737488355328)
 (h:∀ v' w',w'.ownsRow w.heap.size e k v' l.length (l.flatMap enc)→Gr w w'→wpList P ops Q rest (a.put o.dst v') w'):wpList P ops Q (o :: rest) a (w.alloc (.cells #[] e)):=by
 subst hN;have hl':Al k enc (w.alloc (.cells #[] e)) sa l:=by
  intro i s hi;obtain ⟨b,off,ha,hb,hcl⟩:=hl i s hi;exact ⟨b,off,ha,by simp;omega,fun j u hu => by rw [((Gr.refl w).alloc (.cells #[] e)).cells.1 _ _ hb];exact hcl j u hu⟩
 refine Ai (k:=k) (enc:=enc) hgd s x t ho w.heap.size e i z bytes ht hi hz hsize hby hzs hsz hk h1 (.slice (some ⟨w.heap.size,0,none⟩) 0 0) [] hs (Bw w e k _ rfl _ (Nat.le_refl _)) sa c l hx hl' hc (by simpa using h63) (by simpa using hbytes) (by simp) ?_;intro v' w' hown hgr;exact h v' w' hown (((Gr.refl w).alloc _).grown hgr (by simp [Value.ownBlock]))
end
abbrev Hy (E:Nat→Addr) (g:Nat):Value:=.iface 384 (.pointer (some (E g)))
structure CK (G:List Nat) (E:Nat→Addr) (w:World):Prop where
 lt:∀ g,g ∈ G→g < w.heap.size
 at_lt:∀ g,g ∈ G→(E g).block < w.heap.size
 cell:∀ g,g ∈ G→w.cell? ⟨g,0,none⟩ = some (Hy E g)
 row:∀ g,g ∈ G→∃ c t,w.heap[(E g).block]? = some (.cells c t (0,0))
 ne:∀ g k,g ∈ G→k ∈ G→g ≠ k→E g ≠ E k
theorem CK.gr {G:List Nat} {E:Nat→Addr} {w w':World} (h:CK G E w) (g:Gr w w'):CK G E w' where
 lt k hk:=Nat.lt_of_lt_of_le (h.lt k hk) g.size
 at_lt k hk:=Nat.lt_of_lt_of_le (h.at_lt k hk) g.size
 cell k hk:=by rw [g.cells.1 k 0 (h.lt k hk)];exact h.cell k hk
 row k hk:=by obtain ⟨c,t,e⟩:=h.row k hk;exact ⟨c,t,by rw [Below.block g _ (h.at_lt k hk)];exact e⟩
 ne:=h.ne
theorem CK.c0 {G:List Nat} {E:Nat→Addr} {w:World} (h:CK G E w) {g:Nat} (hg:g ∈ G):w.cell? ⟨g,0,none⟩ = some (.iface 384 (.pointer (some (E g)))):=h.cell g hg
structure Ao where
 k:Int
 q:Int
 t:Int
structure AA where
 c:Int
 p:Int
 d:Int
 s:Int
instance:Inhabited Ao:=⟨⟨0,0,0⟩⟩
instance:Inhabited AA:=⟨⟨0,0,0,0⟩⟩
def Ao.leg (s:Ao):Bool:=decide (1≤s.k∧s.k≤3∧1≤s.q∧s.q≤s.t∧s.t≤256)
def AA.leg (t:AA):Bool:=decide (1≤t.c∧t.c≤t.d∧t.d≤t.p∧t.p≤256∧0≤t.s∧t.s≤t.c)
theorem Ao.leg_iff (s:Ao):s.leg = true ↔ (1≤s.k∧s.k≤3∧1≤s.q∧s.q≤s.t∧s.t≤256):=by unfold Ao.leg;exact decide_eq_true_iff
theorem AA.leg_iff (t:AA):t.leg = true ↔ (1≤t.c∧t.c≤t.d∧t.d≤t.p∧t.p≤256∧0≤t.s∧t.s≤t.c):=by unfold AA.leg;exact decide_eq_true_iff
def AJ (w:World) (a:Option Addr) (l:List Ao):Prop :=
 ∀ (i:Nat) (s:Ao),l[i]? = some s→∃ b off,a = some ⟨b,off,none⟩∧b < w.heap.size∧w.cell? ⟨b,off + i * 3,none⟩ = some (.int .i64 s.k)∧w.cell? ⟨b,off + i * 3 + 1,none⟩ = some (.int .i64 s.q)∧w.cell? ⟨b,off + i * 3 + 2,none⟩ = some (.int .i64 s.t)
def A1 (w:World) (a:Option Addr) (l:List AA):Prop :=
 ∀ (i:Nat) (s:AA),l[i]? = some s→∃ b off,a = some ⟨b,off,none⟩∧b < w.heap.size∧w.cell? ⟨b,off + i * 4,none⟩ = some (.int .i64 s.c)∧w.cell? ⟨b,off + i * 4 + 1,none⟩ = some (.int .i64 s.p)∧w.cell? ⟨b,off + i * 4 + 2,none⟩ = some (.int .i64 s.d)∧w.cell? ⟨b,off + i * 4 + 3,none⟩ = some (.int .i64 s.s)
theorem AJ.gr {w w':World} {a:Option Addr} {l:List Ao} (h:AJ w a l) (g:Gr w w'):AJ w' a l:=by
 intro i s hi;obtain ⟨b,off,ha,hb,h0,h1,h2⟩:=h i s hi;have hc:=g.cells.1;exact ⟨b,off,ha,Nat.lt_of_lt_of_le hb g.size,by rw [hc _ _ hb];exact h0,by rw [hc _ _ hb];exact h1,by rw [hc _ _ hb];exact h2⟩
theorem A1.gr {w w':World} {a:Option Addr} {l:List AA} (h:A1 w a l) (g:Gr w w'):A1 w' a l:=by
 intro i s hi;obtain ⟨b,off,ha,hb,h0,h1,h2,h3⟩:=h i s hi;have hc:=g.cells.1;exact ⟨b,off,ha,Nat.lt_of_lt_of_le hb g.size,by rw [hc _ _ hb];exact h0,by rw [hc _ _ hb];exact h1,by rw [hc _ _ hb];exact h2,by rw [hc _ _ hb];exact h3⟩
theorem Ac {α:Type} (l:List α) (i:Nat) (h:i < l.length):∃ s,l[i]? = some s:=⟨l[i],by simp [h]⟩
theorem Ae {α:Type} {l:List α} {i:Nat} {s:α} (h:l[i]? = some s):l.take (i + 1) = l.take i ++ [s]:=by
 rw [List.take_add_one,h];rfl
theorem AQ {α:Type} {l:List α} {i:Nat} {s:α} (h:l[i]? = some s):i < l.length:=by
 have:=List.getElem?_eq_some_iff.1 h;exact this.1
theorem AL {α:Type} {l:List α} {i:Nat} {s:α} (h:l[i]? = some s):s ∈ l:=List.mem_of_getElem? h
abbrev Ao.cells (s:Ao):List Value:=[.int .i64 s.k,.int .i64 s.q,.int .i64 s.t]
abbrev AA.cells (s:AA):List Value:=[.int .i64 s.c,.int .i64 s.p,.int .i64 s.d,.int .i64 s.s]
theorem MB {w:World} {a:Option Addr} {l:List Ao} (h:Al 3 Ao.cells w a l):AJ w a l:=by
 intro i s hi;obtain ⟨b,off,ha,hb,hc⟩:=h i s hi;exact ⟨b,off,ha,hb,hc 0 _ rfl,hc 1 _ rfl,hc 2 _ rfl⟩
theorem DH {w:World} {a:Option Addr} {l:List AA} (h:Al 4 AA.cells w a l):A1 w a l:=by
 intro i s hi;obtain ⟨b,off,ha,hb,hc⟩:=h i s hi;exact ⟨b,off,ha,hb,hc 0 _ rfl,hc 1 _ rfl,hc 2 _ rfl,hc 3 _ rfl⟩
theorem Ao.cells_len (s:Ao):s.cells.length = 3:=rfl
theorem AA.cells_len (s:AA):s.cells.length = 4:=rfl
theorem Ao.cells_one (s:Ao):∀ u ∈ s.cells,u.oneCell' = true:=by intro u hu;simp at hu;rcases hu with rfl | rfl | rfl <;> rfl
theorem AA.cells_one (s:AA):∀ u ∈ s.cells,u.oneCell' = true:=by intro u hu;simp at hu;rcases hu with rfl | rfl | rfl | rfl <;> rfl
theorem Tryz.infoSrv:(Tryz.prog.info? 29).map (fun i => (i.zero,i.size,i.bytes)) = some (some (.agg #[.int .i64 0,.int .i64 0,.int .i64 0]),3,24):=by kernel_rfl
theorem Tryz.infoTsk:(Tryz.prog.info? 41).map (fun i => (i.zero,i.size,i.bytes)) = some (some (.agg #[.int .i64 0,.int .i64 0,.int .i64 0,.int .i64 0]),4,32):=by kernel_rfl
theorem Aa (w:World) (n:Nat):(w.drewN n).heap.size = w.heap.size:=rfl
theorem ret2 {k:IntKind} {a b a' b':Int} (h1:a = a') (h2:b = b'):Ending.returned (.tuple #[.int k a,.int k b]) = .returned (.tuple #[.int k a',.int k b']):=by rw [h1,h2]
theorem Hb {k:IntKind} {a b:Int} (h:a = b):Ending.returned (.int k a) = .returned (.int k b):=by rw [h]
theorem C5 {a b:Bool} (h:a = b):Ending.returned (.bool a) = .returned (.bool b):=by rw [h]
def Ag (w:World) (b:Nat) (cs:Array Value) (t:TypeId):Prop:=w.heap[b]? = some (.cells cs t (0,0))
theorem Ag.cell {w:World} {b:Nat} {cs:Array Value} {t:TypeId} (h:Ag w b cs t) {i:Nat} {v:Value} (hv:cs[i]? = some v):w.cell? ⟨b,i,none⟩ = some v:=by rw [cell_of_row w b i cs t (0,0) h,hv]
theorem Ag.free {w:World} {b:Nat} {cs:Array Value} {t:TypeId} (h:Ag w b cs t) (i:Nat):w.frozen? ⟨b,i,none⟩ = false:=frozen_of_row w b i cs t h
theorem Ag.lt {w:World} {b:Nat} {cs:Array Value} {t:TypeId} (h:Ag w b cs t):b < w.heap.size:=(Array.getElem?_eq_some_iff.1 h).1
theorem Ag.new (w:World) (cs:Array Value) (t:TypeId):Ag (w.alloc (.cells cs t)) w.heap.size cs t:=heap_alloc_new w _
theorem Ag.alloc {w:World} {b:Nat} {cs:Array Value} {t:TypeId} (h:Ag w b cs t) (o:Obj):Ag (w.alloc o) b cs t:=by unfold Ag;rw [heap_alloc_old w o h.lt];exact h
theorem Ag.drew {w:World} {b:Nat} {cs:Array Value} {t:TypeId} (h:Ag w b cs t):Ag w.drew b cs t:=h
theorem Ag.set {w:World} {b:Nat} {cs:Array Value} {t:TypeId} (h:Ag w b cs t) (i:Nat) (v:Value):Ag (w.setCell ⟨b,i,none⟩ v) b (cs.setIfInBounds i v) t:=heap_setCell_same w b i cs t v h
theorem Ag.other {w:World} {b:Nat} {cs:Array Value} {t:TypeId} (h:Ag w b cs t) {a:Addr} (ha:b ≠ a.block) (v:Value):Ag (w.setCell a v) b cs t:=by unfold Ag;rw [heap_setCell_other w a b v ha];exact h
theorem Ag.gr {w w':World} {b:Nat} {cs:Array Value} {t:TypeId} (h:Ag w b cs t) (g:Gr w w'):Ag w' b cs t:=by unfold Ag;rw [g.block b h.lt];exact h
structure Aw (S:List Nat) (w w':World):Prop where
 os:w'.os = w.os
 tape:w'.tape = w.tape
 output:w'.output = w.output
 size:w.heap.size≤w'.heap.size
 block:∀ k,k < w.heap.size→k ∉ S→w'.heap[k]? = w.heap[k]?
theorem Gr.x {w w':World} (g:Gr w w') (S:List Nat):Aw S w w':=⟨g.os,g.tape,g.output,g.size,fun k hk _ => g.block k hk⟩
theorem Aw.refl (S:List Nat) (w:World):Aw S w w:=(Gr.refl w).x S
theorem Aw.trans {S:List Nat} {a b c:World} (h:Aw S a b) (g:Aw S b c):Aw S a c :=
 ⟨g.os.trans h.os,g.tape.trans h.tape,g.output.trans h.output,Nat.le_trans h.size g.size,fun k hk hn => (g.block k (Nat.lt_of_lt_of_le hk h.size) hn).trans (h.block k hk hn)⟩
theorem Aw.gr {S:List Nat} {a b c:World} (h:Aw S a b) (g:Gr b c):Aw S a c:=h.trans (g.x S)
theorem Aw.set {S:List Nat} {a b:World} (h:Aw S a b) {p:Addr} (hp:p.block ∈ S ∨ a.heap.size≤p.block) (v:Value):Aw S a (b.setCell p v) :=
 ⟨h.os,h.tape,h.output,by simp;exact h.size,fun k hk hn => by
  rw [heap_setCell_other b p k v (fun e => by rcases hp with hp | hp;exact hn (e ▸ hp);omega)];exact h.block k hk hn⟩
theorem Aw.alloc {S:List Nat} {a b:World} (h:Aw S a b) (o:Obj):Aw S a (b.alloc o):=h.gr ((Gr.refl b).alloc o)
theorem Aw.drew {S:List Nat} {a b:World} (h:Aw S a b):Aw S a b.drew:=h.gr ((Gr.refl b).drew)
theorem Aw.drewN {S:List Nat} {a b:World} (h:Aw S a b) (n:Nat):Aw S a (b.drewN n):=h.gr ((Gr.refl b).drewN n)
theorem Aw.all {S:List Nat} {w a b:World} (g:Gr w a) (h:Aw S a b) (hS:∀ x,x ∈ S→w.heap.size≤x):Gr w b :=
 ⟨h.os.trans g.os,h.tape.trans g.tape,h.output.trans g.output,Nat.le_trans g.size h.size,fun k hk => by
  rw [h.block k (Nat.lt_of_lt_of_le hk g.size) (fun hx => by have:=hS k hx;omega)];exact g.block k hk⟩
theorem Ag.grx {S:List Nat} {w w':World} {b:Nat} {cs:Array Value} {t:TypeId} (h:Ag w b cs t) (g:Aw S w w') (hn:b ∉ S):Ag w' b cs t:=by unfold Ag;rw [g.block b h.lt hn];exact h
theorem Aw.cell {S:List Nat} {w w':World} (g:Aw S w w') {b:Nat} (hb:b < w.heap.size) (hn:b ∉ S) (o:Nat):w'.cell? ⟨b,o,none⟩ = w.cell? ⟨b,o,none⟩:=World.cell?_of_block (g.block b hb hn)
theorem Aw.frozen {S:List Nat} {w w':World} (g:Aw S w w') {b:Nat} (hb:b < w.heap.size) (hn:b ∉ S) (o:Nat):w'.frozen? ⟨b,o,none⟩ = w.frozen? ⟨b,o,none⟩:=World.frozen?_of_block (g.block b hb hn)
def AC {α:Type} (K:Nat→Prop) (k:Nat) (enc:α→List Value) (w:World) (a:Option Addr) (l:List α):Prop:=Al k enc w a l∧∀ x,a = some x→l ≠ []→K x.block
theorem AC.grx {α:Type} {K:Nat→Prop} {T:List Nat} {k:Nat} {enc:α→List Value} {w w':World} {a:Option Addr} {l:List α} (h:AC K k enc w a l) (g:Aw T w w') (hT:∀ x,x ∈ T→¬ K x):AC K k enc w' a l:=by
 refine ⟨fun i s hi => ?_,h.2⟩;obtain ⟨b,off,ha,hb,hc⟩:=h.1 i s hi;have hn:K b:=h.2 _ ha (fun e => by rw [e] at hi;cases hi);refine ⟨b,off,ha,Nat.lt_of_lt_of_le hb g.size,fun j u hu => ?_⟩;rw [g.cell hb (fun hx => hT b hx hn)];exact hc j u hu
theorem AC.mono {α:Type} {K K':Nat→Prop} {k:Nat} {enc:α→List Value} {w:World} {a:Option Addr} {l:List α} (h:AC K k enc w a l) (hk:∀ b,b < w.heap.size→K b→K' b):AC K' k enc w a l:=by
 refine ⟨h.1,fun x hx hl => ?_⟩;cases l with
 | nil => exact absurd rfl hl
 | cons s r =>
  obtain ⟨b,off,ha,hb,_⟩:=h.1 0 s rfl;rw [hx] at ha;cases ha
  exact hk _ hb (h.2 _ hx hl)
theorem AC.nil {α:Type} (K:Nat→Prop) (k:Nat) (enc:α→List Value) (w:World) (a:Option Addr):AC K k enc w a []:=⟨fun i s h => by simp at h,fun _ _ h => absurd rfl h⟩
abbrev Any:Nat→Prop:=fun _ => True
theorem Al.lt {α:Type} {k:Nat} {enc:α→List Value} {w:World} {a:Option Addr} {l:List α} (h:Al k enc w a l) {x:Addr} (ha:a = some x) (hl:l ≠ []):x.block < w.heap.size:=by
 cases l with
 | nil => exact absurd rfl hl
 | cons s r =>
  obtain ⟨b,off,ha',hb,_⟩:=h 0 s rfl;rw [ha] at ha';cases ha'
  exact hb
theorem Al.grown {α:Type} {k:Nat} {enc:α→List Value} {w w':World} {a:Option Addr} {l:List α} {row:Option Nat} (h:Al k enc w a l) (hg:w.grownBy w' row) (hne:∀ x,a = some x→l ≠ []→row ≠ some x.block):Al k enc w' a l:=by
 intro i s hi;obtain ⟨b,off,ha,hb,hc⟩:=h i s hi;have hn:=hne _ ha (fun e => by rw [e] at hi;cases hi);refine ⟨b,off,ha,Nat.lt_of_lt_of_le hb hg.size,fun j u hu => ?_⟩;rw [World.cell?_of_block (hg.block b hb (fun e => hn e.symm))];exact hc j u hu
theorem As {w w':World} {base:Nat} {e:TypeId} {size:Nat} {v:Value} {n:Nat} {xs:List Value} (h:w.ownsRow base e size v n xs) (g:Gr w w'):w'.ownsRow base e size v n xs:=by
 refine ⟨h.1,?_⟩;rcases h.2 with hn | ⟨b,cap,cur,h1,h2,h3,h4⟩
 ·exact .inl hn
 ·exact .inr ⟨b,cap,cur,h1,h2,by rw [Below.block g _ (Array.getElem?_eq_some_iff.1 h3).1];exact h3,h4⟩
theorem Ar {w:World} {base:Nat} {e:TypeId} {size:Nat} {v:Value} {n:Nat} {xs:List Value} (h:w.ownsRow base e size v n xs):∀ g,v.ownBlock = some g→g < w.heap.size∧base≤g:=fun g hg => ⟨(h.lt g hg).2,(h.lt g hg).1⟩
theorem AP {α:Type} {k:Nat} {enc:α→List Value} {P:Program} {w:World} {ops:Array Oper} {rest:List Oper} {o:Oper} {a:Act} {Q:Exit→Act→World→Prop} (hgd:o.guard = none) (s x:Operand) (t:TypeId)
 (ho:o.op = .call { callee:=.builtin .append,args:=#[s,x],argTypes:=#[t,t] })
 (base:Nat) (e:TypeId) (i:TypeInfo) (z:Value) (bytes:Nat) (ht:P.underlying t = some (.slice e)) (hi:P.info? e = some i) (hz:i.zero = some z)
 (hsize:i.size = k) (hby:i.bytes = bytes) (hzs:z.cells.size = k) (hsz:0 < k)
 (hk:∀ s,(enc s).length = k) (h1:∀ s,∀ u ∈ enc s,u.oneCell' = true)
 (v:Value) (l0:List α) (hs:a.eval s = v) (hown:w.ownsRow base e k v l0.length (l0.flatMap enc))
 (B c:Nat) (y:α) (hx:a.eval x = .slice (some ⟨B,0,none⟩) 1 c) (hl:Al k enc w (some ⟨B,0,none⟩) [y])
 (h63:l0.length + 1≤maxLen) (hbytes:(l0.length + 1) * bytes≤140737488355328) (hbase:base≤w.heap.size)
 (h:∀ v' w',w'.ownsRow base e k v' (l0 ++ [y]).length ((l0 ++ [y]).flatMap enc)→w.grownBy w' v.ownBlock→(v'.ownBlock = v.ownBlock ∨ v'.ownBlock = some w.heap.size)→wpList P ops Q rest (a.put o.dst v') w'):wpList P ops Q (o :: rest) a w:=by
 refine wpList_append_own_at w hgd s x t ho base e i z k bytes ht hi hz hsize hby hzs hsz v l0.length (l0.flatMap enc) hs hown ⟨B,0,none⟩ 1 c (enc y) hx (by rw [hk,Nat.one_mul]) ?_ (h1 y) h63 hbytes hbase ?_
 ·intro j u hu;obtain ⟨b,off,ha,_,hc⟩:=hl 0 y rfl;cases ha
  have:=hc j u hu;unfold Addr.add;split
  ·rename_i h0;rw [h0] at this;simpa using this
  ·simpa using this
 ·intro v' w' h2 h3 _ h5;exact h v' w' (by simpa using h2) h3 h5
structure Du where
 cl:Int
 nu:Int
 kd:Int
 id:Int
 srv:Ao
 po:Int
 tasks:List AA
 at_:Int
abbrev Du.cells (e:Du) (a:Option Addr) (c:Nat):List Value :=
 [.int .i64 e.cl,.int .i64 e.nu,.int .i64 e.kd,.int .i64 e.id,.int .i64 e.srv.k,.int .i64 e.srv.q,.int .i64 e.srv.t,.int .i64 e.po,.slice a e.tasks.length c,.int .i64 e.at_]
structure At where
 e:Du
 a:Option Addr
 c:Nat
abbrev At.cells (x:At):List Value:=x.e.cells x.a x.c
theorem At.cells_len (x:At):x.cells.length = 10:=rfl
theorem At.cells_one (x:At):∀ u ∈ x.cells,u.oneCell' = true:=by
 intro u hu;simp at hu;rcases hu with rfl | rfl | rfl | rfl | rfl | rfl | rfl | rfl | rfl | rfl <;> rfl
def At.ok (K:Nat→Prop) (w:World) (x:At):Prop:=AC K 4 AA.cells w x.a x.e.tasks∧(x.a = none→x.c = 0)∧x.e.tasks.length≤x.c∧x.c≤maxLen∧x.e.tasks.length * 32≤140737488351232
theorem At.ok.grx {K:Nat→Prop} {T:List Nat} {w w':World} {x:At} (h:x.ok K w) (g:Aw T w w') (hT:∀ y,y ∈ T→¬ K y):x.ok K w':=⟨h.1.grx g hT,h.2⟩
theorem At.ok.mono {K K':Nat→Prop} {w:World} {x:At} (h:x.ok K w) (hk:∀ b,b < w.heap.size→K b→K' b):x.ok K' w:=⟨h.1.mono hk,h.2⟩
theorem At.ok.grown {K:Nat→Prop} {w w':World} {x:At} {row:Option Nat} (h:x.ok K w) (hg:w.grownBy w' row) (hne:∀ ad,x.a = some ad→x.e.tasks ≠ []→row ≠ some ad.block):x.ok K w':=⟨⟨h.1.1.grown hg hne,h.1.2⟩,h.2⟩
def Cc (K:Nat→Prop) (w:World) (a:Option Addr) (L:List At):Prop:=AC K 10 At.cells w a L∧∀ x ∈ L,x.ok K w
theorem Cc.grx {K:Nat→Prop} {T:List Nat} {w w':World} {a:Option Addr} {L:List At} (h:Cc K w a L) (g:Aw T w w') (hT:∀ y,y ∈ T→¬ K y):Cc K w' a L :=
 ⟨h.1.grx g hT,fun x hx => (h.2 x hx).grx g hT⟩
theorem Cc.mono {K K':Nat→Prop} {w:World} {a:Option Addr} {L:List At} (h:Cc K w a L) (hk:∀ b,b < w.heap.size→K b→K' b):Cc K' w a L:=⟨h.1.mono hk,fun x hx => (h.2 x hx).mono hk⟩
theorem Cc.gr {K:Nat→Prop} {w w':World} {a:Option Addr} {L:List At} (h:Cc K w a L) (g:Gr w w'):Cc K w' a L:=h.grx (T:=[]) (g.x []) (fun _ h => by cases h)
theorem At.ok.gr {K:Nat→Prop} {w w':World} {x:At} (h:x.ok K w) (g:Gr w w'):x.ok K w':=h.grx (T:=[]) (g.x []) (fun _ h => by cases h)
theorem Cc.get {K:Nat→Prop} {w:World} {a:Option Addr} {L:List At} (h:Cc K w a L) {i:Nat} {x:At} (hx:L[i]? = some x) :
 ∃ b off,a = some ⟨b,off,none⟩∧b < w.heap.size∧K b∧w.cell? ⟨b,off + i * 10,none⟩ = some (.int .i64 x.e.cl)∧w.cell? ⟨b,off + i * 10 + 1,none⟩ = some (.int .i64 x.e.nu)∧w.cell? ⟨b,off + i * 10 + 2,none⟩ = some (.int .i64 x.e.kd)∧w.cell? ⟨b,off + i * 10 + 3,none⟩ = some (.int .i64 x.e.id) ∧
  w.cell? ⟨b,off + i * 10 + 4,none⟩ = some (.int .i64 x.e.srv.k)∧w.cell? ⟨b,off + i * 10 + 5,none⟩ = some (.int .i64 x.e.srv.q)∧w.cell? ⟨b,off + i * 10 + 6,none⟩ = some (.int .i64 x.e.srv.t)∧w.cell? ⟨b,off + i * 10 + 7,none⟩ = some (.int .i64 x.e.po) ∧
  w.cell? ⟨b,off + i * 10 + 8,none⟩ = some (.slice x.a x.e.tasks.length x.c)∧w.cell? ⟨b,off + i * 10 + 9,none⟩ = some (.int .i64 x.e.at_):=by
 obtain ⟨b,off,ha,hb,hc⟩:=h.1.1 i x hx;exact ⟨b,off,ha,hb,h.1.2 _ ha (fun e => by rw [e] at hx;cases hx),hc 0 _ rfl,hc 1 _ rfl,hc 2 _ rfl,hc 3 _ rfl,hc 4 _ rfl,hc 5 _ rfl,hc 6 _ rfl,hc 7 _ rfl,hc 8 _ rfl,hc 9 _ rfl⟩
structure Bal where
 r:Int
 n:Int
theorem zH {p:Prop} (h:p):Go.RowKit.Hid p:=Lib.hid h
theorem zE {α:Type} (a:α):∃ x,x = a:=⟨a,rfl⟩
theorem zL {w:World} {o:Obj}:(w.alloc o).heap.size = w.heap.size + 1:=by simp
theorem zS {w:World} {a:Addr} {v:Value}:(w.setCell a v).heap.size = w.heap.size:=by simp
theorem zD {w:World}:w.drew.heap.size = w.heap.size:=rfl
theorem AZ {p0 p1 p2 G:Prop} (h:Go.RowKit.Hid p0→Go.RowKit.Hid p1→Go.RowKit.Hid p2→G):p0→p1→p2→G:=fun a0 a1 a2 => h (Lib.hid a0) (Lib.hid a1) (Lib.hid a2)
theorem B0 {p0 p1 p2 p3 G:Prop} (h:Go.RowKit.Hid p0→Go.RowKit.Hid p1→Go.RowKit.Hid p2→Go.RowKit.Hid p3→G):p0→p1→p2→p3→G:=fun a0 a1 a2 a3 => h (Lib.hid a0) (Lib.hid a1) (Lib.hid a2) (Lib.hid a3)
theorem DT {p0 p1 p2 p3 p4 G:Prop} (h:Go.RowKit.Hid p0→Go.RowKit.Hid p1→Go.RowKit.Hid p2→Go.RowKit.Hid p3→Go.RowKit.Hid p4→G):p0→p1→p2→p3→p4→G:=fun a0 a1 a2 a3 a4 => h (Lib.hid a0) (Lib.hid a1) (Lib.hid a2) (Lib.hid a3) (Lib.hid a4)
theorem Dn {p0 p1 p2 p3 p4 p5 G:Prop} (h:Go.RowKit.Hid p0→Go.RowKit.Hid p1→Go.RowKit.Hid p2→Go.RowKit.Hid p3→Go.RowKit.Hid p4→Go.RowKit.Hid p5→G):p0→p1→p2→p3→p4→p5→G:=fun a0 a1 a2 a3 a4 a5 => h (Lib.hid a0) (Lib.hid a1) (Lib.hid a2) (Lib.hid a3) (Lib.hid a4) (Lib.hid a5)
theorem Fm {p0 p1 p2 p3 p4 p5 p6 G:Prop} (h:Go.RowKit.Hid p0→Go.RowKit.Hid p1→Go.RowKit.Hid p2→Go.RowKit.Hid p3→Go.RowKit.Hid p4→Go.RowKit.Hid p5→Go.RowKit.Hid p6→G):p0→p1→p2→p3→p4→p5→p6→G:=fun a0 a1 a2 a3 a4 a5 a6 => h (Lib.hid a0) (Lib.hid a1) (Lib.hid a2) (Lib.hid a3) (Lib.hid a4) (Lib.hid a5) (Lib.hid a6)
theorem Br {p0 p1 p2 p3 p4 p5 p6 p7 G:Prop} (h:Go.RowKit.Hid p0→Go.RowKit.Hid p1→Go.RowKit.Hid p2→Go.RowKit.Hid p3→Go.RowKit.Hid p4→Go.RowKit.Hid p5→Go.RowKit.Hid p6→Go.RowKit.Hid p7→G):p0→p1→p2→p3→p4→p5→p6→p7→G:=fun a0 a1 a2 a3 a4 a5 a6 a7 => h (Lib.hid a0) (Lib.hid a1) (Lib.hid a2) (Lib.hid a3) (Lib.hid a4) (Lib.hid a5) (Lib.hid a6) (Lib.hid a7)
theorem Ag.c2 {w:World} {b:Nat} {v0 v1:Value} {t:TypeId} (h:Ag w b #[v0,v1] t):w.cell? ⟨b,0,none⟩ = some v0∧w.cell? ⟨b,1,none⟩ = some v1:=⟨h.cell (i:=0) rfl,h.cell (i:=1) rfl⟩
theorem Ag.c3 {w:World} {b:Nat} {v0 v1 v2:Value} {t:TypeId} (h:Ag w b #[v0,v1,v2] t):w.cell? ⟨b,0,none⟩ = some v0∧w.cell? ⟨b,1,none⟩ = some v1∧w.cell? ⟨b,2,none⟩ = some v2:=⟨h.cell (i:=0) rfl,h.cell (i:=1) rfl,h.cell (i:=2) rfl⟩
theorem Ag.c4 {w:World} {b:Nat} {v0 v1 v2 v3:Value} {t:TypeId} (h:Ag w b #[v0,v1,v2,v3] t):w.cell? ⟨b,0,none⟩ = some v0∧w.cell? ⟨b,1,none⟩ = some v1∧w.cell? ⟨b,2,none⟩ = some v2∧w.cell? ⟨b,3,none⟩ = some v3:=⟨h.cell (i:=0) rfl,h.cell (i:=1) rfl,h.cell (i:=2) rfl,h.cell (i:=3) rfl⟩
theorem Ag.c5 {w:World} {b:Nat} {v0 v1 v2 v3 v4:Value} {t:TypeId} (h:Ag w b #[v0,v1,v2,v3,v4] t):w.cell? ⟨b,0,none⟩ = some v0∧w.cell? ⟨b,1,none⟩ = some v1∧w.cell? ⟨b,2,none⟩ = some v2∧w.cell? ⟨b,3,none⟩ = some v3∧w.cell? ⟨b,4,none⟩ = some v4:=⟨h.cell (i:=0) rfl,h.cell (i:=1) rfl,h.cell (i:=2) rfl,h.cell (i:=3) rfl,h.cell (i:=4) rfl⟩
theorem Ag.c7 {w:World} {b:Nat} {v0 v1 v2 v3 v4 v5 v6:Value} {t:TypeId} (h:Ag w b #[v0,v1,v2,v3,v4,v5,v6] t):w.cell? ⟨b,0,none⟩ = some v0∧w.cell? ⟨b,1,none⟩ = some v1∧w.cell? ⟨b,2,none⟩ = some v2∧w.cell? ⟨b,3,none⟩ = some v3∧w.cell? ⟨b,4,none⟩ = some v4∧w.cell? ⟨b,5,none⟩ = some v5∧w.cell? ⟨b,6,none⟩ = some v6:=⟨h.cell (i:=0) rfl,h.cell (i:=1) rfl,h.cell (i:=2) rfl,h.cell (i:=3) rfl,h.cell (i:=4) rfl,h.cell (i:=5) rfl,h.cell (i:=6) rfl⟩
theorem Ag.c8 {w:World} {b:Nat} {v0 v1 v2 v3 v4 v5 v6 v7:Value} {t:TypeId} (h:Ag w b #[v0,v1,v2,v3,v4,v5,v6,v7] t):w.cell? ⟨b,0,none⟩ = some v0∧w.cell? ⟨b,1,none⟩ = some v1∧w.cell? ⟨b,2,none⟩ = some v2∧w.cell? ⟨b,3,none⟩ = some v3∧w.cell? ⟨b,4,none⟩ = some v4∧w.cell? ⟨b,5,none⟩ = some v5∧w.cell? ⟨b,6,none⟩ = some v6∧w.cell? ⟨b,7,none⟩ = some v7:=⟨h.cell (i:=0) rfl,h.cell (i:=1) rfl,h.cell (i:=2) rfl,h.cell (i:=3) rfl,h.cell (i:=4) rfl,h.cell (i:=5) rfl,h.cell (i:=6) rfl,h.cell (i:=7) rfl⟩
theorem Ag.c10 {w:World} {b:Nat} {v0 v1 v2 v3 v4 v5 v6 v7 v8 v9:Value} {t:TypeId} (h:Ag w b #[v0,v1,v2,v3,v4,v5,v6,v7,v8,v9] t):w.cell? ⟨b,0,none⟩ = some v0∧w.cell? ⟨b,1,none⟩ = some v1∧w.cell? ⟨b,2,none⟩ = some v2∧w.cell? ⟨b,3,none⟩ = some v3∧w.cell? ⟨b,4,none⟩ = some v4∧w.cell? ⟨b,5,none⟩ = some v5∧w.cell? ⟨b,6,none⟩ = some v6∧w.cell? ⟨b,7,none⟩ = some v7∧w.cell? ⟨b,8,none⟩ = some v8∧w.cell? ⟨b,9,none⟩ = some v9:=⟨h.cell (i:=0) rfl,h.cell (i:=1) rfl,h.cell (i:=2) rfl,h.cell (i:=3) rfl,h.cell (i:=4) rfl,h.cell (i:=5) rfl,h.cell (i:=6) rfl,h.cell (i:=7) rfl,h.cell (i:=8) rfl,h.cell (i:=9) rfl⟩
theorem Ag.c11 {w:World} {b:Nat} {v0 v1 v2 v3 v4 v5 v6 v7 v8 v9 v10:Value} {t:TypeId} (h:Ag w b #[v0,v1,v2,v3,v4,v5,v6,v7,v8,v9,v10] t):w.cell? ⟨b,0,none⟩ = some v0∧w.cell? ⟨b,1,none⟩ = some v1∧w.cell? ⟨b,2,none⟩ = some v2∧w.cell? ⟨b,3,none⟩ = some v3∧w.cell? ⟨b,4,none⟩ = some v4∧w.cell? ⟨b,5,none⟩ = some v5∧w.cell? ⟨b,6,none⟩ = some v6∧w.cell? ⟨b,7,none⟩ = some v7∧w.cell? ⟨b,8,none⟩ = some v8∧w.cell? ⟨b,9,none⟩ = some v9∧w.cell? ⟨b,10,none⟩ = some v10:=⟨h.cell (i:=0) rfl,h.cell (i:=1) rfl,h.cell (i:=2) rfl,h.cell (i:=3) rfl,h.cell (i:=4) rfl,h.cell (i:=5) rfl,h.cell (i:=6) rfl,h.cell (i:=7) rfl,h.cell (i:=8) rfl,h.cell (i:=9) rfl,h.cell (i:=10) rfl⟩
theorem Ag.n0 {w:World} {cs:Array Value} {t:TypeId}:Ag (w.alloc (.cells cs t)) (w.heap.size) cs t:=by
 have:=Ag.new w cs t;exact this
theorem Ag.n1 {w:World} {o0:Obj} {cs:Array Value} {t:TypeId}:Ag ((w.alloc o0).alloc (.cells cs t)) (w.heap.size + 1) cs t:=by
 have:=Ag.new (w.alloc o0) cs t;rw [World.size_alloc] at this;exact this
theorem Ag.n2 {w:World} {o0 o1:Obj} {cs:Array Value} {t:TypeId}:Ag (((w.alloc o0).alloc o1).alloc (.cells cs t)) (w.heap.size + 1 + 1) cs t:=by
 have:=Ag.new ((w.alloc o0).alloc o1) cs t;rw [World.size_alloc,World.size_alloc] at this;exact this
theorem Ag.n3 {w:World} {o0 o1 o2:Obj} {cs:Array Value} {t:TypeId}:Ag ((((w.alloc o0).alloc o1).alloc o2).alloc (.cells cs t)) (w.heap.size + 1 + 1 + 1) cs t:=by
 have:=Ag.new (((w.alloc o0).alloc o1).alloc o2) cs t;rw [World.size_alloc,World.size_alloc,World.size_alloc] at this;exact this
def AV (n:Int):Int:=n / 18446744073709551616
def AR (n:Int):Int:=n % 18446744073709551616
theorem Fn (n:Int):AV n * 18446744073709551616 + AR n = n:=by unfold AV AR;omega
theorem Jj (n:Int):0≤AR n∧AR n < 18446744073709551616:=by unfold AR;omega
theorem Pp (n:Int) (h:0≤n) (h':n < 340282366920938463463374607431768211456):0≤AV n∧AV n < 18446744073709551616:=by unfold AV;omega
def Fj (x:Int):Prop:=0≤x∧x < 18446744073709551616
def BC (x:Int):Prop:=0≤x∧x < 340282366920938463463374607431768211456
theorem EH (n:Int):Fj (AR n):=Jj n
theorem EI {n:Int} (h:BC n):Fj (AV n):=Pp n h.1 h.2
theorem N5 (x y:Int) (hx:Fj x) (hy:Fj y) :
 (((x / 4294967296 * (y / 4294967296)) % 18446744073709551616 +
  (((x / 4294967296 * (y % 4294967296)) % 18446744073709551616 + ((x % 4294967296 * (y % 4294967296)) % 18446744073709551616) / 4294967296) % 18446744073709551616) / 4294967296) % 18446744073709551616 +
  (((((x / 4294967296 * (y % 4294967296)) % 18446744073709551616 + ((x % 4294967296 * (y % 4294967296)) % 18446744073709551616) / 4294967296) % 18446744073709551616) % 4294967296 +
   (x % 4294967296 * (y / 4294967296)) % 18446744073709551616) % 18446744073709551616) / 4294967296) % 18446744073709551616 = AV (x * y):=mul64_arith x y hx.1 hx.2 hy.1 hy.2
theorem Iz (x y:Int) (w:World) (hx:Fj x) (hy:Fj y) :
 Calls Tryz.prog 262 #[.int .u64 x,.int .u64 y] w fun e w' => e = .returned (.tuple #[.int .u64 (AV (x * y)),.int .u64 (AR (x * y))])∧w = w':=by
 have H:=N5 x y hx hy;have H:=Lib.hid H;obtain ⟨h1,h2⟩:=hx;obtain ⟨h3,h4⟩:=hy;go_enter Tryz.func262,Tryz.ntmps262;go_wp2;go_ret2;refine ⟨ret2 ?_ ?_,rfl⟩
 ·show IntKind.u64.wrap _ = _;rw [← H.out];rw [and_low32 x h1 h2,and_low32 y h3 h4];simp only [IntKind.wrap_u64];rw [and_low32 _ (by omega) (by omega)]
 ·show IntKind.u64.wrap _ = _;rw [IntKind.wrap_u64];rfl
theorem IW (x y c:Int) (hx:0≤x) (hy:0≤y) (hc0:0≤c) (hc:c≤1) (w:World):(callFunc 263 #[.int .u64 x,.int .u64 y,.int .u64 c]).run Tryz.prog w =
 .ok (.value (.tuple #[.int .u64 (AR (x + y + c)),.int .u64 (AV (x + y + c))])) w:=by
 rw [run_callFunc_extern Tryz.func263 (by kernel_rfl) (by kernel_rfl) (by kernel_rfl) (e:=add64Entry) (by kernel_rfl),run_add64 x y c hx hy hc0 hc];rfl
theorem HP (x y:Int) (hx:0≤x) (hy:0≤y) (w:World):(callFunc 263 #[.int .u64 x,.int .u64 y,.int .u64 0]).run Tryz.prog w =
 .ok (.value (.tuple #[.int .u64 (AR (x + y)),.int .u64 (AV (x + y))])) w:=by
 simpa using IW x y 0 hx hy (Int.le_refl 0) (by decide) w
theorem MN (a n:Int) (ha:BC a) (hn:Fj n) (hp:BC (a * n)) :
 AV (AV a * n) = 0∧AV (AR (AV a * n) + AV (AR a * n)) = 0∧AR (AR (AV a * n) + AV (AR a * n)) = AV (a * n)∧AR (AR a * n) = AR (a * n)∧0≤AV (AR a * n):=by
 have ea:a * n = AV a * n * 18446744073709551616 + AR a * n:=by
  conv => lhs;rw [← Fn a]
  rw [Int.add_mul,Int.mul_assoc,Int.mul_comm 18446744073709551616 n,← Int.mul_assoc]
 have h1:0≤AV a * n:=Int.mul_nonneg (EI ha).1 hn.1;have h2:0≤AR a * n:=Int.mul_nonneg (EH a).1 hn.1;rw [ea] at hp ⊢;generalize AV a * n = p at *;generalize AR a * n = q at *;obtain ⟨hp1,hp2⟩:=hp;unfold AV AR;omega
theorem D7 (a n:Int) (w:World) (ha:BC a) (hn:Fj n) (hp:BC (a * n)) :
 Calls Tryz.prog 236 #[.agg #[.int .u64 (AV a),.int .u64 (AR a)],.int .u64 n] w fun e w' => e = .returned (.tuple #[.agg #[.int .u64 (AV (a * n)),.int .u64 (AR (a * n))],.bool true])∧Gr w w':=by
 obtain ⟨e1,e2,e3,e4,b2⟩:=MN a n ha hn hp;have E3:=Lib.hid e3;clear e3;have E4:=Lib.hid e4;clear e4;have b1:=(Jj (AV a * n)).1;have hl:=EH a;have hh:=EI ha;go_enter Tryz.func236,Tryz.ntmps236;go_wp2_with fail;refine (Iz _ _ _ hl hn).mono ?_;rintro e w' ⟨rfl,rfl⟩;go_wp2_with fail;refine (Iz _ _ _ hh hn).mono ?_;rintro e w' ⟨rfl,rfl⟩;go_wp2_with (simp only [HP _ _ b1 b2]);refine bodyPost_ret (v:=.tuple #[.agg #[.int .u64 (AV (a * n)),.int .u64 (AR (a * n))],.bool true]) (by simp [results,Tryz.results236,go_sem,E3.out,E4.out]) rfl ⟨rfl,?_⟩;repeat (first | exact Gr.refl _ | apply Gr.alloc)
theorem Nx (a b:Int) (ha:BC a) (hb:BC b) (hp:BC (a + b)) :
 AV (AV a + AV b + AV (AR a + AR b)) = 0∧AR (AV a + AV b + AV (AR a + AR b)) = AV (a + b)∧AR (AR a + AR b) = AR (a + b)∧0≤AV (AR a + AR b)∧AV (AR a + AR b)≤1:=by
 obtain ⟨ha1,ha2⟩:=ha;obtain ⟨hb1,hb2⟩:=hb;obtain ⟨hp1,hp2⟩:=hp;unfold AV AR;omega
theorem L8 (a b:Int) (w:World) (ha:BC a) (hb:BC b) (hp:BC (a + b)) :
 Calls Tryz.prog 237 #[.agg #[.int .u64 (AV a),.int .u64 (AR a)],.agg #[.int .u64 (AV b),.int .u64 (AR b)]] w fun e w' => e = .returned (.tuple #[.agg #[.int .u64 (AV (a + b)),.int .u64 (AR (a + b))],.bool true])∧Gr w w':=by
 obtain ⟨e1,e2,e3,b2,b3⟩:=Nx a b ha hb hp;have E2:=Lib.hid e2;clear e2;have E3:=Lib.hid e3;clear e3;have l1:=(EH a).1;have l2:=(EH b).1;have l3:=(EI ha).1;have l4:=(EI hb).1;go_enter Tryz.func237,Tryz.ntmps237;go_wp2_with (first | simp only [HP _ _ l1 l2] | simp only [IW _ _ _ l3 l4 b2 b3]);refine bodyPost_ret (v:=.tuple #[.agg #[.int .u64 (AV (a + b)),.int .u64 (AR (a + b))],.bool true]) (by simp [results,Tryz.results237,go_sem,E2.out,E3.out]) rfl ⟨rfl,?_⟩;repeat (first | exact Gr.refl _ | apply Gr.alloc)
theorem Pm (n:Int) (w:World) :
 Calls Tryz.prog 260 #[.int .u64 n] w fun e w' => e = .returned (.agg #[.int .u64 0,.int .u64 n])∧Gr w w':=by
 go_enter Tryz.func260,Tryz.ntmps260;go_wp2;refine bodyPost_ret (v:=.agg #[.int .u64 0,.int .u64 n]) (by simp [results,Tryz.results260,go_sem]) rfl ⟨rfl,?_⟩;repeat (first | exact Gr.refl _ | apply Gr.alloc)
theorem LI (d:Int) (hd:BC d) (h0:0 < d):0 < AV d + AR d∧0≤AV d∧0≤AR d:=by
 have:=Fn d;have:=EH d;have:=EI hd;unfold Fj at *;omega
theorem IB (n d q t:Int) (w:World) (hd:BC d) (h0:0 < d) (hq:0≤q) (ht:1≤t) :
 Calls Tryz.prog 261 #[.agg #[.int .u64 (AV n),.int .u64 (AR n),.int .u64 (AV d),.int .u64 (AR d)],.int .i64 q,.int .i64 t] w fun e w' => e = .returned (.bool true)∧Gr w w':=by
 obtain ⟨hn1,hn2,hn3⟩:=LI d hd h0;go_enter Tryz.func261,Tryz.ntmps261;go_wp2;all_goals (go_ret;exact ⟨rfl,(Gr.refl _).alloc _⟩)
theorem J2 (n d q t:Int) (w:World) (hn:BC n) (hd:BC d) (h0:0 < d) (hq:0≤q) (hq':q≤4294967296) (ht:1≤t) (ht':t≤4294967296) (h1:BC (n * t + d * q)) (h2:BC (d * t)) :
 Calls Tryz.prog 233 #[.agg #[.int .u64 (AV n),.int .u64 (AR n),.int .u64 (AV d),.int .u64 (AR d)],.int .i64 q,.int .i64 t] w fun e w' => e = .returned (.tuple #[.agg #[.int .u64 (AV (n * t + d * q)),.int .u64 (AR (n * t + d * q)),.int .u64 (AV (d * t)),.int .u64 (AR (d * t))],.bool true])∧Gr w w':=by
 have wq:Fj q:=⟨hq,by omega⟩
 have wt:Fj t:=⟨by omega,by omega⟩
 have p1:0≤n * t:=Int.mul_nonneg hn.1 wt.1;have p2:0≤d * q:=Int.mul_nonneg hd.1 hq;have w1:BC (n * t):=⟨p1,by have:=h1.2;omega⟩
 have w2:BC (d * q):=⟨p2,by have:=h1.2;omega⟩
 go_enter Tryz.func233,Tryz.ntmps233;go_wp2_with fail;refine (IB n d q t _ hd h0 hq ht).mono ?_;rintro e wa ⟨rfl,ga⟩;obtain ⟨ca,fa,sa⟩:=ga.cells;try simp only [Aa] at ca fa sa
 try simp only [zL] at ca fa sa
 try simp only [zD] at ca fa sa
 try simp only [zS] at ca fa sa
 have za0:w.heap.size < wa.heap.size:=by omega
 have ya0:w.heap.size≤wa.heap.size:=by omega
 have ka0:=fun o => ca (w.heap.size) o (by omega)
 have ja0:=fun o => fa (w.heap.size) o (by omega)
 have za1:w.heap.size + 1 < wa.heap.size:=by omega
 have ka1:=fun o => ca (w.heap.size + 1) o (by omega)
 have ja1:=fun o => fa (w.heap.size + 1) o (by omega)
 go_wp2_with fail;refine (D7 n t _ hn wt w1).mono ?_;rintro e wb ⟨rfl,gb⟩;obtain ⟨cb,fb,sb⟩:=gb.cells;try simp only [Aa] at cb fb sb
 try simp only [zL] at cb fb sb
 try simp only [zD] at cb fb sb
 try simp only [zS] at cb fb sb
 have zb0:w.heap.size < wb.heap.size:=by omega
 have yb0:w.heap.size≤wb.heap.size:=by omega
 have kb0:=fun o => cb (w.heap.size) o (by omega)
 have jb0:=fun o => fb (w.heap.size) o (by omega)
 have zb1:w.heap.size + 1 < wb.heap.size:=by omega
 have kb1:=fun o => cb (w.heap.size + 1) o (by omega)
 have jb1:=fun o => fb (w.heap.size + 1) o (by omega)
 go_wp2_with fail;refine (D7 d q _ hd wq w2).mono ?_;rintro e wc ⟨rfl,gc⟩;obtain ⟨cc,fc,sc⟩:=gc.cells;try simp only [Aa] at cc fc sc
 try simp only [zL] at cc fc sc
 try simp only [zD] at cc fc sc
 try simp only [zS] at cc fc sc
 have zc0:w.heap.size < wc.heap.size:=by omega
 have yc0:w.heap.size≤wc.heap.size:=by omega
 have kc0:=fun o => cc (w.heap.size) o (by omega)
 have jc0:=fun o => fc (w.heap.size) o (by omega)
 have zc1:w.heap.size + 1 < wc.heap.size:=by omega
 have kc1:=fun o => cc (w.heap.size + 1) o (by omega)
 have jc1:=fun o => fc (w.heap.size + 1) o (by omega)
 have zc2:wb.heap.size < wc.heap.size:=by omega
 have yc2:wb.heap.size≤wc.heap.size:=by omega
 have kc2:=fun o => cc (wb.heap.size) o (by omega)
 have jc2:=fun o => fc (wb.heap.size) o (by omega)
 go_wp2_with fail;refine (L8 (n * t) (d * q) _ w1 w2 h1).mono ?_;rintro e wd ⟨rfl,gd⟩;obtain ⟨cd,fd,sd⟩:=gd.cells;try simp only [Aa] at cd fd sd
 try simp only [zL] at cd fd sd
 try simp only [zD] at cd fd sd
 try simp only [zS] at cd fd sd
 have zd0:w.heap.size < wd.heap.size:=by omega
 have yd0:w.heap.size≤wd.heap.size:=by omega
 have kd0:=fun o => cd (w.heap.size) o (by omega)
 have jd0:=fun o => fd (w.heap.size) o (by omega)
 have zd1:w.heap.size + 1 < wd.heap.size:=by omega
 have kd1:=fun o => cd (w.heap.size + 1) o (by omega)
 have jd1:=fun o => fd (w.heap.size + 1) o (by omega)
 have zd2:wb.heap.size < wd.heap.size:=by omega
 have yd2:wb.heap.size≤wd.heap.size:=by omega
 have kd2:=fun o => cd (wb.heap.size) o (by omega)
 have jd2:=fun o => fd (wb.heap.size) o (by omega)
 have zd3:wc.heap.size < wd.heap.size:=by omega
 have yd3:wc.heap.size≤wd.heap.size:=by omega
 have kd3:=fun o => cd (wc.heap.size) o (by omega)
 have jd3:=fun o => fd (wc.heap.size) o (by omega)
 go_wp2_with fail;refine (D7 d t _ hd wt h2).mono ?_;rintro e wk ⟨rfl,gk⟩;obtain ⟨ck,fk,sk⟩:=gk.cells;try simp only [Aa] at ck fk sk
 try simp only [zL] at ck fk sk
 try simp only [zD] at ck fk sk
 try simp only [zS] at ck fk sk
 have zk0:w.heap.size < wk.heap.size:=by omega
 have yk0:w.heap.size≤wk.heap.size:=by omega
 have kk0:=fun o => ck (w.heap.size) o (by omega)
 have jk0:=fun o => fk (w.heap.size) o (by omega)
 have zk1:w.heap.size + 1 < wk.heap.size:=by omega
 have kk1:=fun o => ck (w.heap.size + 1) o (by omega)
 have jk1:=fun o => fk (w.heap.size + 1) o (by omega)
 have zk2:wb.heap.size < wk.heap.size:=by omega
 have yk2:wb.heap.size≤wk.heap.size:=by omega
 have kk2:=fun o => ck (wb.heap.size) o (by omega)
 have jk2:=fun o => fk (wb.heap.size) o (by omega)
 have zk3:wc.heap.size < wk.heap.size:=by omega
 have yk3:wc.heap.size≤wk.heap.size:=by omega
 have kk3:=fun o => ck (wc.heap.size) o (by omega)
 have jk3:=fun o => fk (wc.heap.size) o (by omega)
 have zk4:wd.heap.size < wk.heap.size:=by omega
 have yk4:wd.heap.size≤wk.heap.size:=by omega
 have kk4:=fun o => ck (wd.heap.size) o (by omega)
 have jk4:=fun o => fk (wd.heap.size) o (by omega)
 go_wp2_with fail;refine bodyPost_ret (v:=.tuple #[.agg #[.int .u64 (AV (n * t + d * q)),.int .u64 (AR (n * t + d * q)),.int .u64 (AV (d * t)),.int .u64 (AR (d * t))],.bool true]) (by simp [results,Tryz.results233,go_sem, *]) rfl ⟨rfl,?_⟩;repeat (first | exact Gr.refl _ | apply Gr.alloc | apply Gr.drew | apply Gr.drewN | (refine Gr.setCell ?_ (by simp) _) | (refine Gr.trans ?_ (by assumption)))
def BS (x y:Int):Int:=if x < y then -1 else if y < x then 1 else 0
def orI (x y:Int):Int:=if x = 0 then y else x
theorem Np (x y:Int) (w:World) :
 Calls Tryz.prog 272 #[.int .u64 x,.int .u64 y] w fun e w' => e = .returned (.int .i64 (BS x y))∧w = w':=by
 unfold BS;go_enter Tryz.func272,Tryz.ntmps272;go_wp2;all_goals (go_ret;exact ⟨Hb (by simp [*]),rfl⟩)
theorem Pj (x y:Int) (b:Nat) (w:World) (h0:w.cell? ⟨b,0,none⟩ = some (.int .i64 x)) (h1:w.cell? ⟨b,1,none⟩ = some (.int .i64 y)) :
 Calls Tryz.prog 138 #[.slice (some ⟨b,0,none⟩) 2 2] w fun e w' => e = .returned (.int .i64 (orI x y))∧w = w':=by
 unfold orI;by_cases hx:x = 0
 ·subst hx;rw [if_pos rfl];by_cases hy:y = 0
  ·subst hy;go_enter Tryz.func138,Tryz.ntmps138;go_wp2;refine wp_loop_rounds 3 ?_;rw [rounds_succ];go_wp2;rw [rounds_succ];go_wp2;rw [rounds_succ];go_wp2;go_ret;exact ⟨rfl,rfl⟩
  ·have hy':(y == 0) = false:=by simpa using hy
   have hy2:(y != 0) = true:=by simpa using hy
   go_enter Tryz.func138,Tryz.ntmps138;go_wp2;refine wp_loop_rounds 3 ?_;rw [rounds_succ];go_wp2;rw [rounds_succ];go_wp2;go_ret;exact ⟨rfl,rfl⟩
 ·rw [if_neg hx];have hy2:(x != 0) = true:=by simpa using hx
  go_enter Tryz.func138,Tryz.ntmps138;go_wp2;refine wp_loop_rounds 3 ?_;rw [rounds_succ];go_wp2;go_ret;exact ⟨rfl,rfl⟩
theorem KB (a b:Int) (w:World) :
 Calls Tryz.prog 264 #[.agg #[.int .u64 (AV a),.int .u64 (AR a)],.agg #[.int .u64 (AV b),.int .u64 (AR b)]] w fun e w' => e = .returned (.int .i64 (orI (BS (AV a) (AV b)) (BS (AR a) (AR b))))∧Gr w w':=by
 go_enter Tryz.func264,Tryz.ntmps264;go_wp2;go_region_held3 (fun w' => w'.cell? ⟨w.heap.size,0,none⟩ = some (.int .u64 (AV a))∧w'.cell? ⟨w.heap.size,1,none⟩ = some (.int .u64 (AR a))∧w'.cell? ⟨w.heap.size + 1,0,none⟩ = some (.int .u64 (AV b))∧w'.cell? ⟨w.heap.size + 1,1,none⟩ = some (.int .u64 (AR b))) (simp [go_sem,World.cell?_alloc_past])
  (first
   | (go_at_call 272;refine (Np _ _ _).mono ?_;rintro e w' ⟨rfl,rfl⟩)
   | (go_at_call 138;refine Calls.mono (Pj (BS (AV a) (AV b)) (BS (AR a) (AR b)) _ _ ?_ ?_) ?_;rotate_left 2;rintro e w1 ⟨rfl,rfl⟩;rotate_left 1;simp [go_sem];simp [go_sem]))
 go_wp2;go_ret;refine ⟨rfl,?_⟩;repeat (first | exact Gr.refl _ | apply Gr.alloc | apply Gr.drew | apply Gr.drewN | (refine Gr.setCell ?_ (by simp) _) | (refine Gr.trans ?_ (by assumption)))
theorem Bk (k q t:Int) (w:World) (h:(Ao.mk k q t).leg = true) :
 Calls Tryz.prog 158 #[.agg #[.int .i64 k,.int .i64 q,.int .i64 t]] w fun e w' => e = .returned .nilIface∧Gr w w':=by
 have h:=(Ao.leg_iff _).1 h;obtain ⟨h1,h2,h3,h4,h5⟩:=h;dsimp only at h1 h2 h3 h4 h5;go_enter Tryz.func158,Tryz.ntmps158;go_wp2;go_ret;exact ⟨rfl,(Gr.refl _).alloc _⟩
theorem BH {G:List Nat} {E:Nat→Addr} (k q t:Int) (w:World) (hE:CK G E w) (i0:9 ∈ G) (h:(Ao.mk k q t).leg = false) :
 Calls Tryz.prog 158 #[.agg #[.int .i64 k,.int .i64 q,.int .i64 t]] w fun e w' => e = .returned (Value.iface 384 (.pointer (some (E 9))))∧Gr w w':=by
 have h:¬ (1≤k∧k≤3∧1≤q∧q≤t∧t≤256):=fun x => by rw [(Ao.leg_iff _).2 x] at h;cases h
 have hc:=hE.c0 i0;have hl:=hE.lt 9 i0;by_cases h1:k < 1 ∨ 3 < k ∨ q < 1 ∨ t < q;all_goals
  go_enter Tryz.func158,Tryz.ntmps158;go_wp2
 all_goals (go_ret;exact ⟨rfl,(Gr.refl _).alloc _⟩)
def errNos:List Nat:=[1,2,3,4,0,5,6,7,8,9,10,11,12,13,14,15]
def numI (g:Nat):Int:=(errNos.idxOf g:Int) + 1
end Go.Proofs.YtdfelohjdkcpkaaGreatDoor
