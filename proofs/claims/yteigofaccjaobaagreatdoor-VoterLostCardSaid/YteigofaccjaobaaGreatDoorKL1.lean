/- Lists of records in memory: reading, owning, appending. Nothing of the program is named here. -/
import Derived.WalkKit
import Derived.Laws.AppendOwnNone
import Derived.BigQuiet
import Derived.Deep.QuietTactic
import Derived.Test.YteigofaccjaobaaGreatDoorRows
import Derived.WalkSpells
import Derived.WalkLawsBesides
import Derived.Lib.Hide
import Derived.Deep.RegionHeld3
import Derived.Deep.DrawnRows
import Derived.Deep.DeepFit
import Derived.LaidEql
import Derived.Laws.Rows
import Derived.Laws.IdiomCopy
import Derived.Maps.AppendAt
import Derived.OneCell
import Derived.Lib.SliceRun
import Derived.Laws.BitsLemmas
namespace Go.Proofs.YteigofaccjaobaaGreatDoor
open Go.RowKit
def Gr (w w':World):Prop:=Below w.heap.size w w'
theorem Gr.refl (w:World):Gr w w:=Below.refl _ _
theorem Gr.alloc {w a:World} (h:Gr w a) (o:Obj):Gr w (a.alloc o):=Below.alloc h h.size o
theorem Gr.drew {w a:World} (h:Gr w a):Gr w a.drew:=Below.drew h
theorem Gr.drewN {w a:World} (h:Gr w a) (n:Nat):Gr w (a.drewN n):=⟨h.os,h.tape,h.output,h.size,h.block⟩
theorem Gr.trans {w a b:World} (h:Gr w a) (k:Gr a b):Gr w b:=Below.trans h (Below.mono k h.size)
theorem Gr.setCell {w a:World} (h:Gr w a) {p:Addr} (hp:w.heap.size≤p.block) (u:Value):Gr w (a.setCell p u):=Below.setCell h hp u
theorem Gr.grown {w a w':World} {row:Option Nat} (h:Gr w a) (hg:a.grownBy w' row) (hr:∀ k,row = some k→w.heap.size≤k):Gr w w':=Below.grown h hg (Below.size h) hr
theorem Gr.size {w a:World} (h:Gr w a):w.heap.size≤a.heap.size:=Below.size h
theorem Gr.cells {W w1:World} (hb:Gr W w1):(∀ b o,b < W.heap.size→w1.cell? ⟨b,o,none⟩ = W.cell? ⟨b,o,none⟩)∧(∀ b o,b < W.heap.size→w1.frozen? ⟨b,o,none⟩ = W.frozen? ⟨b,o,none⟩)∧W.heap.size≤w1.heap.size :=
 ⟨fun b o h => Below.cell hb (p:=⟨b,o,none⟩) h,fun b o h => Below.frozen hb (p:=⟨b,o,none⟩) h,hb.size⟩
theorem le_alloc {B:Nat} {w:World} (h:B≤w.heap.size) (o:Obj):B≤(w.alloc o).heap.size:=by simp;omega
structure GrW (w:World) where
 to:World
 gr:Gr w to
theorem GrW.of {w w':World} (h:∃ x:GrW w,w' = x.to):Gr w w':=by obtain ⟨x,rfl⟩:=h;exact x.gr
instance (w:World):Nonempty (GrW w):=⟨⟨w,Gr.refl w⟩⟩
theorem GrW.cell {w:World} {b o:Nat} {v:Value} (h:w.cell? ⟨b,o,none⟩ = some v):∀ x:GrW w,x.to.cell? ⟨b,o,none⟩ = some v:=by
 intro x;have hb:b < w.heap.size:=by
  unfold World.cell? at h;split at h
  ·rename_i hb;exact (Array.getElem?_eq_some_iff.1 hb).1
  ·cases h
 rw [x.gr.cells.1 b o hb];exact h
theorem wp_region_grows {P:Program} {id:Nat} {Q:Exit→Act→World→Prop} {a:Act} {w:World} {l:List Oper} (hm:P.follows .mixedOrders = true) (hB:Region.lexB .any l.toArray = true)
 (h:wpQuiet P l.toArray (fun w' => ∃ x:GrW w,w' = x.to) (fun a' => ∀ w',(∃ x:GrW w,w' = x.to)→Q .normal a' w') l a):(Code.region id l.toArray true).wp P Q a w :=
 wp_region_quiet (C:=fun w' => ∃ x:GrW w,w' = x.to) hm hB ⟨⟨_,(Gr.refl w).drew⟩,rfl⟩ (by simpa using h)
theorem Calls.grows {P:Program} {f:FuncId} {args:Array Value} {w:World} {x:GrW w} {v:Value}
 (h:Calls P f args x.to fun e w' => e = .returned v∧Gr x.to w'):Calls P f args x.to fun e w'' => e = .returned v∧∃ y:GrW w,w'' = y.to :=
 h.mono fun _ w'' ⟨he,hg⟩ => ⟨he,⟨w'',x.gr.trans hg⟩,rfl⟩
theorem Calls.grows_same {P:Program} {f:FuncId} {args:Array Value} {w:World} {x:GrW w} {v:Value}
 (h:Calls P f args x.to fun e w' => e = .returned v∧x.to = w'):Calls P f args x.to fun e w'' => e = .returned v∧∃ y:GrW w,w'' = y.to :=
 h.mono fun _ _ ⟨he,hg⟩ => ⟨he,x,hg.symm⟩
def RecsAt {α:Type} (k:Nat) (enc:α→List Value) (w:World) (a:Option Addr) (l:List α):Prop :=
 ∀ (i:Nat) (s:α),l[i]? = some s→∃ b off,a = some ⟨b,off,none⟩∧b < w.heap.size∧∀ (j:Nat) (u:Value),(enc s)[j]? = some u→w.cell? ⟨b,off + i * k + j,none⟩ = some u
section
variable {α:Type} {k:Nat} {enc:α→List Value}
theorem flat_len (hk:∀ s,(enc s).length = k) (l:List α):(l.flatMap enc).length = l.length * k:=by
 induction l with
 | nil => simp
 | cons s r ih => rw [List.flatMap_cons,List.length_append,ih,hk,List.length_cons,Nat.add_mul,Nat.one_mul,Nat.add_comm]
theorem flat_get (hk:∀ s,(enc s).length = k):∀ (l:List α) (i:Nat) (s:α) (j:Nat) (u:Value),l[i]? = some s→(enc s)[j]? = some u→(l.flatMap enc)[i * k + j]? = some u:=by
 intro l;induction l with
 | nil => intro i s j u h;simp at h
 | cons x r ih =>
  intro i s j u h hu;rw [List.flatMap_cons];cases i with
  | zero =>
   obtain rfl:x = s:=by simpa using h
   have hj:j < (enc x).length:=(List.getElem?_eq_some_iff.1 hu).1;rw [Nat.zero_mul,Nat.zero_add,List.getElem?_append_left hj];exact hu
  | succ i =>
   have h':r[i]? = some s:=by simpa using h
   rw [List.getElem?_append_right (by rw [hk,Nat.add_mul];omega),hk,show (i + 1) * k + j - k = i * k + j by rw [Nat.add_mul];omega];exact ih i s j u h' hu
theorem flat_at (hk:∀ s,(enc s).length = k) (hp:0 < k) (l:List α) (m:Nat) (u:Value) (h:(l.flatMap enc)[m]? = some u):∃ s,l[m / k]? = some s∧(enc s)[m % k]? = some u:=by
 have hm:m < l.length * k:=by rw [← flat_len hk l];exact (List.getElem?_eq_some_iff.1 h).1
 have hi:m / k < l.length:=(Nat.div_lt_iff_lt_mul hp).2 hm;have hs:l[m / k]? = some l[m / k]:=List.getElem?_eq_getElem hi;have hj:m % k < (enc l[m / k]).length:=by rw [hk];exact Nat.mod_lt _ hp
 refine ⟨_,hs,?_⟩;have hu:(enc l[m / k])[m % k]? = some (enc l[m / k])[m % k]:=List.getElem?_eq_getElem hj;have:=flat_get hk l _ _ _ _ hs hu;rw [Nat.mul_comm,Nat.div_add_mod] at this;rw [hu,← this,h]
theorem RecsAt.of_below {w w':World} {B:Nat} {a:Option Addr} {l:List α} (h:RecsAt k enc w a l) (hb:∀ x,a = some x→x.block < B) (g:Below B w w'):RecsAt k enc w' a l:=by
 intro i s hi;obtain ⟨b,off,ha,hlt,hc⟩:=h i s hi;have hB:=hb _ ha;exact ⟨b,off,ha,Nat.lt_of_lt_of_le hlt g.size,fun j u hu => by rw [g.cell (p:=⟨b,off + i * k + j,none⟩) hB];exact hc j u hu⟩
theorem recs_of_owns {w:World} {base:Nat} {e:TypeId} {v:Value} {l:List α} (hk:∀ s,(enc s).length = k) (h:w.ownsRow base e k v l.length (l.flatMap enc)) :
 ∃ a c,v = .slice a l.length c∧RecsAt k enc w a l∧(a = none→c = 0)∧∀ x,a = some x→base≤x.block:=by
 obtain ⟨_,h | ⟨g,cap,cur,hv,hg,hh,hn,_,hsz,htk⟩⟩:=h
 ·obtain ⟨rfl,hn⟩:=h;obtain rfl:l = []:=List.length_eq_zero_iff.1 hn;exact ⟨none,0,rfl,(fun i s hs => by simp at hs),(fun _ => rfl),(fun x hx => by cases hx)⟩
 ·refine ⟨some ⟨g,0,none⟩,cap,hv,fun i s hi => ⟨g,0,rfl,(Array.getElem?_eq_some_iff.1 hh).1,fun j u hu => ?_⟩,(fun hx => by cases hx),fun x hx => by cases hx;exact hg⟩;have h1:=flat_get hk l i s j u hi hu;rw [← htk] at h1;rw [List.getElem?_take] at h1;split at h1
  ·rw [World.cell?,hh];simpa using h1
  ·cases h1
theorem own_block {w:World} {base:Nat} {e:TypeId} {size:Nat} {v:Value} {n:Nat} {xs:List Value} (h:w.ownsRow base e size v n xs):∀ k,v.ownBlock = some k→base≤k:=by
 intro k hk;obtain ⟨_,h | ⟨g,cap,cur,hv,hg,_⟩⟩:=h
 ·obtain ⟨rfl,_⟩:=h;simp [Value.ownBlock] at hk
 ·subst hv;simp [Value.ownBlock] at hk;omega
theorem recs_alloc (hk:∀ s,(enc s).length = k) (w:World) (l:List α) (e:TypeId) (cs:Array Value) (h:cs.toList = l.flatMap enc):RecsAt k enc (w.alloc (.cells cs e)) (some ⟨w.heap.size,0,none⟩) l:=by
 intro i s hi;refine ⟨w.heap.size,0,rfl,by simp,fun j u hu => ?_⟩;have h1:=flat_get hk l i s j u hi hu;rw [← h] at h1;rw [World.cell?,heap_alloc_new w _,Nat.zero_add];simpa using h1
theorem wpList_append_recs {P:Program} {w:World} {ops:Array Oper} {rest:List Oper} {o:Oper} {a:Act} {Q:Exit→Act→World→Prop} (hgd:o.guard = none) (s x:Operand) (t:TypeId)
 (ho:o.op = .call { callee:=.builtin .append,args:=#[s,x],argTypes:=#[t,t] })
 (base:Nat) (e:TypeId) (i:TypeInfo) (z:Value) (bytes:Nat) (ht:P.underlying t = some (.slice e)) (hi:P.info? e = some i) (hz:i.zero = some z)
 (hsize:i.size = k) (hby:i.bytes = bytes) (hzs:z.cells.size = k) (hsz:0 < k)
 (hk:∀ s,(enc s).length = k) (h1:∀ s,∀ u ∈ enc s,u.oneCell' = true)
 (v:Value) (l0:List α) (hs:a.eval s = v) (hown:w.ownsRow base e k v l0.length (l0.flatMap enc))
 (sa:Option Addr) (c:Nat) (l:List α) (hx:a.eval x = .slice sa l.length c) (hl:RecsAt k enc w sa l) (hc:sa = none→c = 0)
 (h63:l0.length + l.length≤maxLen) (hbytes:(l0.length + l.length) * bytes≤140737488355328) (hbase:base≤w.heap.size)
 (h:∀ v' w',w'.ownsRow base e k v' (l0 ++ l).length ((l0 ++ l).flatMap enc)→w.grownBy w' v.ownBlock→wpList P ops Q rest (a.put o.dst v') w'):wpList P ops Q (o :: rest) a w:=by
 cases sa with
 | none =>
  obtain rfl:=hc rfl;obtain rfl:l = []:=by
   cases l with
   | nil => rfl
   | cons y r => obtain ⟨b,off,hh,_⟩:=hl 0 y rfl;cases hh
  refine wpList_append_own_none hgd s x t ho base e i k ht hi v l0.length (l0.flatMap enc) hs hown hx ?_;exact h v w (by simpa using hown) ⟨rfl,rfl,rfl,Nat.le_refl _,fun _ _ _ => rfl⟩
 | some ad =>
  refine wpList_append_own w hgd s x t ho base e i z k bytes ht hi hz hsize hby hzs hsz v l0.length (l0.flatMap enc) hs hown ad l.length c (l.flatMap enc) hx (flat_len hk l) ?_ ?_ h63 hbytes hbase ?_
  ·intro j u hj;obtain ⟨y,hy,hu⟩:=flat_at hk hsz l j u hj;obtain ⟨b,off,hh,_,hcell⟩:=hl _ y hy;obtain rfl:=Option.some.inj hh;have:=hcell _ u hu;have e1:off + j / k * k + j % k = off + j:=by rw [Nat.add_assoc,Nat.mul_comm,Nat.div_add_mod]
   rw [e1] at this;unfold Addr.add;by_cases hj0:j = 0
   ·subst hj0;simpa using this
   ·simpa [hj0] using this
  ·intro u hu;obtain ⟨y,_,hy⟩:=List.mem_flatMap.1 hu;exact h1 y u hy
  ·intro v' w' ho' hg' _;exact h v' w' (by simpa using ho') hg'
theorem owns_empty (w:World) (e:TypeId) (k:Nat) (o:Obj) (ho:o = .cells #[] e (0,0)) (base:Nat) (hb:base≤w.heap.size):(w.alloc o).ownsRow base e k (.slice (some ⟨w.heap.size,0,none⟩) 0 0) ([]:List α).length (([]:List α).flatMap enc):=by
 subst ho;refine ⟨by simp,.inr ⟨w.heap.size,0,#[],rfl,hb,heap_alloc_new w _,Nat.le_refl _,Nat.zero_le _,by simp,by simp⟩⟩
end
abbrev errAt (E:Nat→Addr) (g:Nat):Value:=.iface 297 (.pointer (some (E g)))
structure EAt (G:List Nat) (E:Nat→Addr) (w:World):Prop where
 lt:∀ g,g ∈ G→g < w.heap.size
 at_lt:∀ g,g ∈ G→(E g).block < w.heap.size
 cell:∀ g,g ∈ G→w.cell? ⟨g,0,none⟩ = some (errAt E g)
 row:∀ g,g ∈ G→∃ c t,w.heap[(E g).block]? = some (.cells c t (0,0))
 ne:∀ g k,g ∈ G→k ∈ G→g ≠ k→E g ≠ E k
theorem EAt.gr {G:List Nat} {E:Nat→Addr} {w w':World} (h:EAt G E w) (g:Gr w w'):EAt G E w' where
 lt k hk:=Nat.lt_of_lt_of_le (h.lt k hk) g.size
 at_lt k hk:=Nat.lt_of_lt_of_le (h.at_lt k hk) g.size
 cell k hk:=by rw [g.cells.1 k 0 (h.lt k hk)];exact h.cell k hk
 row k hk:=by obtain ⟨c,t,e⟩:=h.row k hk;exact ⟨c,t,by rw [Below.block g _ (h.at_lt k hk)];exact e⟩
 ne:=h.ne
theorem EAt.c0 {G:List Nat} {E:Nat→Addr} {w:World} (h:EAt G E w) {g:Nat} (hg:g ∈ G):w.cell? ⟨g,0,none⟩ = some (.iface 297 (.pointer (some (E g)))):=h.cell g hg
theorem Tryz.errComp:(Tryz.prog.info? 297).map (·.comparable) = some true:=by kernel_rfl
theorem Tryz.errSize:(Tryz.prog.info? 321).map (·.size) = some 1:=by kernel_rfl
theorem eql_same (E:Nat→Addr) (g:Nat) (w:World):(binOp .eql 31 (.iface 297 (.pointer (some (E g)))) (.iface 297 (.pointer (some (E g))))).run Tryz.prog w = .ok (.bool true) w:=by
 obtain ⟨i,hi,hc⟩:=Option.map_eq_some_iff.1 Tryz.errComp;obtain ⟨j,hj,hs⟩:=Option.map_eq_some_iff.1 Tryz.errSize;exact run_eql_iface_ptr_same w (E g) Tryz.underlying31 Tryz.underlying297 hi hc hj
theorem eql_other {G:List Nat} {E:Nat→Addr} {w:World} (h:EAt G E w) {g k:Nat} (hg:g ∈ G) (hk:k ∈ G) (hn:g ≠ k):(binOp .eql 31 (.iface 297 (.pointer (some (E g)))) (.iface 297 (.pointer (some (E k))))).run Tryz.prog w = .ok (.bool false) w:=by
 obtain ⟨i,hi,hc⟩:=Option.map_eq_some_iff.1 Tryz.errComp;obtain ⟨j,hj,hs⟩:=Option.map_eq_some_iff.1 Tryz.errSize;obtain ⟨c,t,e⟩:=h.row g hg;obtain ⟨c',t',e'⟩:=h.row k hk;exact run_eql_iface_ptr_other w Tryz.underlying31 Tryz.underlying297 hi hc hj (by rw [hs];decide) (h.ne g k hg hk hn) e e'
structure Srv where
 k:Int
 q:Int
 t:Int
structure Tsk where
 c:Int
 p:Int
 d:Int
 s:Int
instance:Inhabited Srv:=⟨⟨0,0,0⟩⟩
instance:Inhabited Tsk:=⟨⟨0,0,0,0⟩⟩
theorem get_some {α:Type} (l:List α) (i:Nat) (h:i < l.length):∃ s,l[i]? = some s:=⟨l[i],by simp [h]⟩
theorem take_snoc {α:Type} {l:List α} {i:Nat} {s:α} (h:l[i]? = some s):l.take (i + 1) = l.take i ++ [s]:=by
 rw [List.take_add_one,h];rfl
theorem get_lt {α:Type} {l:List α} {i:Nat} {s:α} (h:l[i]? = some s):i < l.length:=by
 have:=List.getElem?_eq_some_iff.1 h;exact this.1
theorem get_mem {α:Type} {l:List α} {i:Nat} {s:α} (h:l[i]? = some s):s ∈ l:=List.mem_of_getElem? h
abbrev Tsk.cells (s:Tsk):List Value:=[.int .i64 s.c,.int .i64 s.p,.int .i64 s.d,.int .i64 s.s]
theorem Tsk.cells_len (s:Tsk):s.cells.length = 4:=rfl
theorem Tsk.cells_one (s:Tsk):∀ u ∈ s.cells,u.oneCell' = true:=by intro u hu;simp at hu;rcases hu with rfl | rfl | rfl | rfl <;> rfl
theorem Tryz.infoTsk:(Tryz.prog.info? 136).map (fun i => (i.zero,i.size,i.bytes)) = some (some (.agg #[.int .i64 0,.int .i64 0,.int .i64 0,.int .i64 0]),4,32):=by kernel_rfl
theorem size_drewN (w:World) (n:Nat):(w.drewN n).heap.size = w.heap.size:=rfl
theorem ret1 {k:IntKind} {a b:Int} (h:a = b):Ending.returned (.int k a) = .returned (.int k b):=by rw [h]
theorem retb {a b:Bool} (h:a = b):Ending.returned (.bool a) = .returned (.bool b):=by rw [h]
def Blk (w:World) (b:Nat) (cs:Array Value) (t:TypeId):Prop:=w.heap[b]? = some (.cells cs t (0,0))
theorem Blk.cell {w:World} {b:Nat} {cs:Array Value} {t:TypeId} (h:Blk w b cs t) {i:Nat} {v:Value} (hv:cs[i]? = some v):w.cell? ⟨b,i,none⟩ = some v:=by rw [cell_of_row w b i cs t (0,0) h,hv]
theorem Blk.free {w:World} {b:Nat} {cs:Array Value} {t:TypeId} (h:Blk w b cs t) (i:Nat):w.frozen? ⟨b,i,none⟩ = false:=frozen_of_row w b i cs t h
theorem Blk.lt {w:World} {b:Nat} {cs:Array Value} {t:TypeId} (h:Blk w b cs t):b < w.heap.size:=(Array.getElem?_eq_some_iff.1 h).1
theorem Blk.new (w:World) (cs:Array Value) (t:TypeId):Blk (w.alloc (.cells cs t)) w.heap.size cs t:=heap_alloc_new w _
theorem Blk.alloc {w:World} {b:Nat} {cs:Array Value} {t:TypeId} (h:Blk w b cs t) (o:Obj):Blk (w.alloc o) b cs t:=by unfold Blk;rw [heap_alloc_old w o h.lt];exact h
theorem Blk.drew {w:World} {b:Nat} {cs:Array Value} {t:TypeId} (h:Blk w b cs t):Blk w.drew b cs t:=h
theorem Blk.set {w:World} {b:Nat} {cs:Array Value} {t:TypeId} (h:Blk w b cs t) (i:Nat) (v:Value):Blk (w.setCell ⟨b,i,none⟩ v) b (cs.setIfInBounds i v) t:=heap_setCell_same w b i cs t v h
theorem Blk.other {w:World} {b:Nat} {cs:Array Value} {t:TypeId} (h:Blk w b cs t) {a:Addr} (ha:b ≠ a.block) (v:Value):Blk (w.setCell a v) b cs t:=by unfold Blk;rw [heap_setCell_other w a b v ha];exact h
theorem Blk.gr {w w':World} {b:Nat} {cs:Array Value} {t:TypeId} (h:Blk w b cs t) (g:Gr w w'):Blk w' b cs t:=by unfold Blk;rw [g.block b h.lt];exact h
structure GrX (S:List Nat) (w w':World):Prop where
 os:w'.os = w.os
 tape:w'.tape = w.tape
 output:w'.output = w.output
 size:w.heap.size≤w'.heap.size
 block:∀ k,k < w.heap.size→k ∉ S→w'.heap[k]? = w.heap[k]?
theorem Gr.x {w w':World} (g:Gr w w') (S:List Nat):GrX S w w':=⟨g.os,g.tape,g.output,g.size,fun k hk _ => g.block k hk⟩
theorem GrX.refl (S:List Nat) (w:World):GrX S w w:=(Gr.refl w).x S
theorem GrX.trans {S:List Nat} {a b c:World} (h:GrX S a b) (g:GrX S b c):GrX S a c :=
 ⟨g.os.trans h.os,g.tape.trans h.tape,g.output.trans h.output,Nat.le_trans h.size g.size,fun k hk hn => (g.block k (Nat.lt_of_lt_of_le hk h.size) hn).trans (h.block k hk hn)⟩
theorem GrX.mono {S T:List Nat} {a b:World} (h:GrX S a b) (hs:∀ x,x ∈ S→x ∈ T):GrX T a b:=⟨h.os,h.tape,h.output,h.size,fun k hk hn => h.block k hk (fun hx => hn (hs k hx))⟩
theorem GrX.gr {S:List Nat} {a b c:World} (h:GrX S a b) (g:Gr b c):GrX S a c:=h.trans (g.x S)
theorem GrX.set {S:List Nat} {a b:World} (h:GrX S a b) {p:Addr} (hp:p.block ∈ S ∨ a.heap.size≤p.block) (v:Value):GrX S a (b.setCell p v) :=
 ⟨h.os,h.tape,h.output,by simp;exact h.size,fun k hk hn => by
  rw [heap_setCell_other b p k v (fun e => by rcases hp with hp | hp;exact hn (e ▸ hp);omega)];exact h.block k hk hn⟩
theorem GrX.alloc {S:List Nat} {a b:World} (h:GrX S a b) (o:Obj):GrX S a (b.alloc o):=h.gr ((Gr.refl b).alloc o)
theorem GrX.drew {S:List Nat} {a b:World} (h:GrX S a b):GrX S a b.drew:=h.gr ((Gr.refl b).drew)
theorem GrX.all {S:List Nat} {w a b:World} (g:Gr w a) (h:GrX S a b) (hS:∀ x,x ∈ S→w.heap.size≤x):Gr w b :=
 ⟨h.os.trans g.os,h.tape.trans g.tape,h.output.trans g.output,Nat.le_trans g.size h.size,fun k hk => by
  rw [h.block k (Nat.lt_of_lt_of_le hk g.size) (fun hx => by have:=hS k hx;omega)];exact g.block k hk⟩
theorem Blk.grx {S:List Nat} {w w':World} {b:Nat} {cs:Array Value} {t:TypeId} (h:Blk w b cs t) (g:GrX S w w') (hn:b ∉ S):Blk w' b cs t:=by unfold Blk;rw [g.block b h.lt hn];exact h
theorem GrX.cell {S:List Nat} {w w':World} (g:GrX S w w') {b:Nat} (hb:b < w.heap.size) (hn:b ∉ S) (o:Nat):w'.cell? ⟨b,o,none⟩ = w.cell? ⟨b,o,none⟩:=World.cell?_of_block (g.block b hb hn)
def RecsIn {α:Type} (K:Nat→Prop) (k:Nat) (enc:α→List Value) (w:World) (a:Option Addr) (l:List α):Prop:=RecsAt k enc w a l∧∀ x,a = some x→l ≠ []→K x.block
theorem RecsIn.grx {α:Type} {K:Nat→Prop} {T:List Nat} {k:Nat} {enc:α→List Value} {w w':World} {a:Option Addr} {l:List α} (h:RecsIn K k enc w a l) (g:GrX T w w') (hT:∀ x,x ∈ T→¬ K x):RecsIn K k enc w' a l:=by
 refine ⟨fun i s hi => ?_,h.2⟩;obtain ⟨b,off,ha,hb,hc⟩:=h.1 i s hi;have hn:K b:=h.2 _ ha (fun e => by rw [e] at hi;cases hi);refine ⟨b,off,ha,Nat.lt_of_lt_of_le hb g.size,fun j u hu => ?_⟩;rw [g.cell hb (fun hx => hT b hx hn)];exact hc j u hu
theorem RecsIn.mono {α:Type} {K K':Nat→Prop} {k:Nat} {enc:α→List Value} {w:World} {a:Option Addr} {l:List α} (h:RecsIn K k enc w a l) (hk:∀ b,b < w.heap.size→K b→K' b):RecsIn K' k enc w a l:=by
 refine ⟨h.1,fun x hx hl => ?_⟩;cases l with
 | nil => exact absurd rfl hl
 | cons s r =>
  obtain ⟨b,off,ha,hb,_⟩:=h.1 0 s rfl;rw [hx] at ha;cases ha
  exact hk _ hb (h.2 _ hx hl)
theorem RecsIn.nil {α:Type} (K:Nat→Prop) (k:Nat) (enc:α→List Value) (w:World) (a:Option Addr):RecsIn K k enc w a []:=⟨fun i s h => by simp at h,fun _ _ h => absurd rfl h⟩
abbrev Any:Nat→Prop:=fun _ => True
theorem RecsAt.lt {α:Type} {k:Nat} {enc:α→List Value} {w:World} {a:Option Addr} {l:List α} (h:RecsAt k enc w a l) {x:Addr} (ha:a = some x) (hl:l ≠ []):x.block < w.heap.size:=by
 cases l with
 | nil => exact absurd rfl hl
 | cons s r =>
  obtain ⟨b,off,ha',hb,_⟩:=h 0 s rfl;rw [ha] at ha';cases ha'
  exact hb
theorem RecsAt.grown {α:Type} {k:Nat} {enc:α→List Value} {w w':World} {a:Option Addr} {l:List α} {row:Option Nat} (h:RecsAt k enc w a l) (hg:w.grownBy w' row) (hne:∀ x,a = some x→l ≠ []→row ≠ some x.block):RecsAt k enc w' a l:=by
 intro i s hi;obtain ⟨b,off,ha,hb,hc⟩:=h i s hi;have hn:=hne _ ha (fun e => by rw [e] at hi;cases hi);refine ⟨b,off,ha,Nat.lt_of_lt_of_le hb hg.size,fun j u hu => ?_⟩;rw [World.cell?_of_block (hg.block b hb (fun e => hn e.symm))];exact hc j u hu
theorem owns_gr {w w':World} {base:Nat} {e:TypeId} {size:Nat} {v:Value} {n:Nat} {xs:List Value} (h:w.ownsRow base e size v n xs) (g:Gr w w'):w'.ownsRow base e size v n xs:=by
 refine ⟨h.1,?_⟩;rcases h.2 with hn | ⟨b,cap,cur,h1,h2,h3,h4⟩
 ·exact .inl hn
 ·exact .inr ⟨b,cap,cur,h1,h2,by rw [Below.block g _ (Array.getElem?_eq_some_iff.1 h3).1];exact h3,h4⟩
theorem owns_lt {w:World} {base:Nat} {e:TypeId} {size:Nat} {v:Value} {n:Nat} {xs:List Value} (h:w.ownsRow base e size v n xs):∀ g,v.ownBlock = some g→g < w.heap.size∧base≤g:=fun g hg => ⟨(h.lt g hg).2,(h.lt g hg).1⟩
theorem wpList_append_one {α:Type} {k:Nat} {enc:α→List Value} {P:Program} {w:World} {ops:Array Oper} {rest:List Oper} {o:Oper} {a:Act} {Q:Exit→Act→World→Prop} (hgd:o.guard = none) (s x:Operand) (t:TypeId)
 (ho:o.op = .call { callee:=.builtin .append,args:=#[s,x],argTypes:=#[t,t] })
 (base:Nat) (e:TypeId) (i:TypeInfo) (z:Value) (bytes:Nat) (ht:P.underlying t = some (.slice e)) (hi:P.info? e = some i) (hz:i.zero = some z)
 (hsize:i.size = k) (hby:i.bytes = bytes) (hzs:z.cells.size = k) (hsz:0 < k)
 (hk:∀ s,(enc s).length = k) (h1:∀ s,∀ u ∈ enc s,u.oneCell' = true)
 (v:Value) (l0:List α) (hs:a.eval s = v) (hown:w.ownsRow base e k v l0.length (l0.flatMap enc))
 (B c:Nat) (y:α) (hx:a.eval x = .slice (some ⟨B,0,none⟩) 1 c) (hl:RecsAt k enc w (some ⟨B,0,none⟩) [y])
 (h63:l0.length + 1≤maxLen) (hbytes:(l0.length + 1) * bytes≤140737488355328) (hbase:base≤w.heap.size)
 (h:∀ v' w',w'.ownsRow base e k v' (l0 ++ [y]).length ((l0 ++ [y]).flatMap enc)→w.grownBy w' v.ownBlock→(v'.ownBlock = v.ownBlock ∨ v'.ownBlock = some w.heap.size)→wpList P ops Q rest (a.put o.dst v') w'):wpList P ops Q (o :: rest) a w:=by
 refine wpList_append_own_at w hgd s x t ho base e i z k bytes ht hi hz hsize hby hzs hsz v l0.length (l0.flatMap enc) hs hown ⟨B,0,none⟩ 1 c (enc y) hx (by rw [hk,Nat.one_mul]) ?_ (h1 y) h63 hbytes hbase ?_
 ·intro j u hu;obtain ⟨b,off,ha,_,hc⟩:=hl 0 y rfl;cases ha
  have:=hc j u hu;unfold Addr.add;split
  ·rename_i h0;rw [h0] at this;simpa using this
  ·simpa using this
 ·intro v' w' h2 h3 _ h5;exact h v' w' (by simpa using h2) h3 h5
structure Ent where
 cl:Int
 nu:Int
 kd:Int
 id:Int
 srv:Srv
 po:Int
 tasks:List Tsk
 at_:Int
abbrev Ent.cells (e:Ent) (a:Option Addr) (c:Nat):List Value :=
 [.int .i64 e.cl,.int .i64 e.nu,.int .i64 e.kd,.int .i64 e.id,.int .i64 e.srv.k,.int .i64 e.srv.q,.int .i64 e.srv.t,.int .i64 e.po,.slice a e.tasks.length c,.int .i64 e.at_]
structure EntM where
 e:Ent
 a:Option Addr
 c:Nat
abbrev EntM.cells (x:EntM):List Value:=x.e.cells x.a x.c
theorem EntM.cells_len (x:EntM):x.cells.length = 10:=rfl
theorem EntM.cells_one (x:EntM):∀ u ∈ x.cells,u.oneCell' = true:=by
 intro u hu;simp at hu;rcases hu with rfl | rfl | rfl | rfl | rfl | rfl | rfl | rfl | rfl | rfl <;> rfl
def EntM.ok (K:Nat→Prop) (w:World) (x:EntM):Prop:=RecsIn K 4 Tsk.cells w x.a x.e.tasks∧(x.a = none→x.c = 0)∧x.e.tasks.length≤x.c∧x.c≤maxLen∧x.e.tasks.length * 32≤140737488351232
theorem EntM.ok.grx {K:Nat→Prop} {T:List Nat} {w w':World} {x:EntM} (h:x.ok K w) (g:GrX T w w') (hT:∀ y,y ∈ T→¬ K y):x.ok K w':=⟨h.1.grx g hT,h.2⟩
theorem EntM.ok.mono {K K':Nat→Prop} {w:World} {x:EntM} (h:x.ok K w) (hk:∀ b,b < w.heap.size→K b→K' b):x.ok K' w:=⟨h.1.mono hk,h.2⟩
theorem EntM.ok.grown {K:Nat→Prop} {w w':World} {x:EntM} {row:Option Nat} (h:x.ok K w) (hg:w.grownBy w' row) (hne:∀ ad,x.a = some ad→x.e.tasks ≠ []→row ≠ some ad.block):x.ok K w':=⟨⟨h.1.1.grown hg hne,h.1.2⟩,h.2⟩
def LedM (K:Nat→Prop) (w:World) (a:Option Addr) (L:List EntM):Prop:=RecsIn K 10 EntM.cells w a L∧∀ x ∈ L,x.ok K w
theorem LedM.grx {K:Nat→Prop} {T:List Nat} {w w':World} {a:Option Addr} {L:List EntM} (h:LedM K w a L) (g:GrX T w w') (hT:∀ y,y ∈ T→¬ K y):LedM K w' a L :=
 ⟨h.1.grx g hT,fun x hx => (h.2 x hx).grx g hT⟩
theorem LedM.mono {K K':Nat→Prop} {w:World} {a:Option Addr} {L:List EntM} (h:LedM K w a L) (hk:∀ b,b < w.heap.size→K b→K' b):LedM K' w a L:=⟨h.1.mono hk,fun x hx => (h.2 x hx).mono hk⟩
theorem LedM.nil (K:Nat→Prop) (w:World) (a:Option Addr):LedM K w a []:=⟨RecsIn.nil _ _ _ _ _,fun _ h => by cases h⟩
theorem LedM.gr {K:Nat→Prop} {w w':World} {a:Option Addr} {L:List EntM} (h:LedM K w a L) (g:Gr w w'):LedM K w' a L:=h.grx (T:=[]) (g.x []) (fun _ h => by cases h)
theorem EntM.ok.gr {K:Nat→Prop} {w w':World} {x:EntM} (h:x.ok K w) (g:Gr w w'):x.ok K w':=h.grx (T:=[]) (g.x []) (fun _ h => by cases h)
theorem LedM.get {K:Nat→Prop} {w:World} {a:Option Addr} {L:List EntM} (h:LedM K w a L) {i:Nat} {x:EntM} (hx:L[i]? = some x) :
 ∃ b off,a = some ⟨b,off,none⟩∧b < w.heap.size∧K b∧w.cell? ⟨b,off + i * 10,none⟩ = some (.int .i64 x.e.cl)∧w.cell? ⟨b,off + i * 10 + 1,none⟩ = some (.int .i64 x.e.nu)∧w.cell? ⟨b,off + i * 10 + 2,none⟩ = some (.int .i64 x.e.kd)∧w.cell? ⟨b,off + i * 10 + 3,none⟩ = some (.int .i64 x.e.id) ∧
  w.cell? ⟨b,off + i * 10 + 4,none⟩ = some (.int .i64 x.e.srv.k)∧w.cell? ⟨b,off + i * 10 + 5,none⟩ = some (.int .i64 x.e.srv.q)∧w.cell? ⟨b,off + i * 10 + 6,none⟩ = some (.int .i64 x.e.srv.t)∧w.cell? ⟨b,off + i * 10 + 7,none⟩ = some (.int .i64 x.e.po) ∧
  w.cell? ⟨b,off + i * 10 + 8,none⟩ = some (.slice x.a x.e.tasks.length x.c)∧w.cell? ⟨b,off + i * 10 + 9,none⟩ = some (.int .i64 x.e.at_):=by
 obtain ⟨b,off,ha,hb,hc⟩:=h.1.1 i x hx;exact ⟨b,off,ha,hb,h.1.2 _ ha (fun e => by rw [e] at hx;cases hx),hc 0 _ rfl,hc 1 _ rfl,hc 2 _ rfl,hc 3 _ rfl,hc 4 _ rfl,hc 5 _ rfl,hc 6 _ rfl,hc 7 _ rfl,hc 8 _ rfl,hc 9 _ rfl⟩
structure Bal where
 r:Int
 n:Int
def aboveB (a b:Bal):Bool:=decide (b.r < a.r ∨ a.r = b.r∧b.n < a.n)
def balB (b:Bal):Bool:=decide (1≤b.r∧b.r≤1099511627776∧0≤b.n∧b.n≤6)
section
variable {α:Type} {k:Nat} {enc:α→List Value}
theorem wpList_copyN {P:Program} {w:World} {ops:Array Oper} {rest:List Oper} {o:Oper} {a:Act} {Q:Exit→Act→World→Prop} (hgd:o.guard = none) (s x:Operand) (t:TypeId)
 (ho:o.op = .call { callee:=.builtin .append,args:=#[s,x],argTypes:=#[t,t] })
 (e:TypeId) (i:TypeInfo) (z:Value) (bytes:Nat) (ht:P.underlying t = some (.slice e)) (hi:P.info? e = some i) (hz:i.zero = some z)
 (hsize:i.size = k) (hby:i.bytes = bytes) (hzs:z.cells.size = k) (hsz:0 < k)
 (hk:∀ s,(enc s).length = k) (h1:∀ s,∀ u ∈ enc s,u.oneCell' = true) (N:Nat) (hN:w.heap.size = N) (hs:a.eval s = .slice (some ⟨N,0,none⟩) 0 0)
 (sa:Option Addr) (c:Nat) (l:List α) (hx:a.eval x = .slice sa l.length c) (hl:RecsAt k enc w sa l) (hc:sa = none→c = 0)
 (h63:l.length≤maxLen) (hbytes:l.length * bytes≤140737488355328)
 (h:∀ v' w',w'.ownsRow w.heap.size e k v' l.length (l.flatMap enc)→Gr w w'→wpList P ops Q rest (a.put o.dst v') w'):wpList P ops Q (o :: rest) a (w.alloc (.cells #[] e)):=by
 subst hN;have hl':RecsAt k enc (w.alloc (.cells #[] e)) sa l:=by
  intro i s hi;obtain ⟨b,off,ha,hb,hcl⟩:=hl i s hi;exact ⟨b,off,ha,by simp;omega,fun j u hu => by rw [((Gr.refl w).alloc (.cells #[] e)).cells.1 _ _ hb];exact hcl j u hu⟩
 refine wpList_append_recs (k:=k) (enc:=enc) hgd s x t ho w.heap.size e i z bytes ht hi hz hsize hby hzs hsz hk h1 (.slice (some ⟨w.heap.size,0,none⟩) 0 0) [] hs (owns_empty w e k _ rfl _ (Nat.le_refl _)) sa c l hx hl' hc (by simpa using h63) (by simpa using hbytes) (by simp) ?_;intro v' w' hown hgr;exact h v' w' hown (((Gr.refl w).alloc _).grown hgr (by simp [Value.ownBlock]))
end
set_option maxHeartbeats 400000 in
theorem above_any (a b:Bal) (w:World) :
 Calls Tryz.prog 9 #[.agg #[.int .i64 a.r,.int .i64 a.n],.agg #[.int .i64 b.r,.int .i64 b.n]] w fun e w' => e = .returned (.bool (aboveB a b))∧Gr w w':=by
 unfold aboveB;by_cases h1:b.r < a.r
 ·rw [decide_eq_true (.inl h1)];go_enter Tryz.func9,Tryz.ntmps9;go_wp2;go_ret;exact ⟨rfl,((Gr.refl _).alloc _).alloc _⟩
 ·by_cases h2:a.r = b.r
  ·by_cases h3:b.n < a.n
   ·rw [decide_eq_true (.inr ⟨h2,h3⟩)];have e:(a.r == b.r) = true:=by simpa using h2
    clear h2;go_enter Tryz.func9,Tryz.ntmps9;go_wp2;go_ret;exact ⟨rfl,((Gr.refl _).alloc _).alloc _⟩
   ·rw [decide_eq_false (fun h => by omega)];have e:(a.r == b.r) = true:=by simpa using h2
    clear h2;go_enter Tryz.func9,Tryz.ntmps9;go_wp2;go_ret;exact ⟨rfl,((Gr.refl _).alloc _).alloc _⟩
  ·rw [decide_eq_false (fun h => by omega)];have e:(a.r == b.r) = false:=by simpa using h2
   clear h2;go_enter Tryz.func9,Tryz.ntmps9;go_wp2;go_ret;exact ⟨rfl,((Gr.refl _).alloc _).alloc _⟩
def NewP {α:Type} (k:Nat) (enc:α→List Value) (l:List α) (w:World) (e:Ending) (w':World):Prop :=
 ∃ a c,e = .returned (.slice a l.length c)∧RecsIn (fun b => w.heap.size≤b) k enc w' a l∧(a = none→c = 0)∧l.length≤c∧c≤maxLen∧Gr w w'
theorem owns_cap {w:World} {base:Nat} {e:TypeId} {size:Nat} {v:Value} {n:Nat} {xs:List Value} {a:Option Addr} {m c:Nat} (h:w.ownsRow base e size v n xs) (hv:v = .slice a m c):n≤c∧c≤maxLen:=by
 obtain ⟨_,⟨h1,h2⟩ | ⟨g,cap,cur,h1,_,_,h2,h3,_⟩⟩:=h
 ·rw [hv] at h1;cases h1;exact ⟨by omega,Nat.zero_le _⟩
 ·rw [hv] at h1;cases h1;exact ⟨h2,h3⟩
set_option maxRecDepth 100000 in
set_option maxHeartbeats 800000 in
theorem clone_any (a:Option Addr) (c:Nat) (l:List Tsk) (w:World) (h:RecsAt 4 Tsk.cells w a l) (hc:a = none→c = 0) (hm:l.length * 32≤140737488351232) :
 Calls Tryz.prog 62 #[.slice a l.length c] w (NewP 4 Tsk.cells l w):=by
 obtain ⟨i72,hi,hz0,hz1,hz2⟩:=info_parts Tryz.infoTsk;have hmm:l.length≤maxLen:=by unfold maxLen;omega
 have n2:l.length * 32≤140737488355328:=by omega
 have hnil:=fun (w:World) a n c => Lib.run_eql_slice_nil (P:=Tryz.prog) w 69 136 a n c 0 0 Tryz.underlying69
 cases a with
 | none =>
  obtain rfl:=hc rfl;obtain rfl:l = []:=by
   cases l with
   | nil => rfl
   | cons y r => obtain ⟨b,off,hh,_⟩:=h 0 y rfl;cases hh
  go_enter Tryz.func62,Tryz.ntmps62;go_wp2_with fail;go_ret;exact ⟨none,0,rfl,RecsIn.nil _ _ _ _ _,(fun _ => rfl),Nat.le_refl _,Nat.zero_le _,Gr.refl _⟩
 | some ad =>
  go_enter Tryz.func62,Tryz.ntmps62;go_wp2_with (at_builtin;refine wpList_copyN (k:=4) (enc:=Tsk.cells) rfl _ _ 69 rfl 136 i72 _ 32 Tryz.underlying69 hi hz0 hz1 hz2 rfl (by decide) Tsk.cells_len Tsk.cells_one w.heap.size rfl rfl (some ad) c l rfl h hc hmm n2 ?_;intro v1 w1 hown g1);obtain ⟨a',c',rfl,hr,hn,hb⟩:=recs_of_owns Tsk.cells_len hown;have hcap:=owns_cap hown rfl;go_wp2_with fail;go_ret;exact ⟨a',c',rfl,⟨hr,fun x hx _ => hb x hx⟩,hn,hcap.1,hcap.2,g1⟩
theorem Tryz.infoEnt:(Tryz.prog.info? 73).map (fun i => (i.zero,i.size,i.bytes)) = some (some (.agg #[.int .i64 0,.int .i64 0,.int .i64 0,.int .i64 0,.int .i64 0,.int .i64 0,.int .i64 0,.int .i64 0,.slice none 0 0,.int .i64 0]),10,96):=by kernel_rfl
def LedP (L:List EntM) (w:World) (e:Ending) (w':World):Prop :=
 ∃ a c L',e = .returned (.slice a L.length c)∧L'.map (·.e) = L.map (·.e)∧LedM (fun b => w.heap.size≤b) w' a L'∧(a = none→c = 0)∧L.length≤c∧c≤maxLen∧Gr w w' ∧
  w'.ownsRow w.heap.size 73 10 (.slice a L'.length c) L'.length (L'.flatMap EntM.cells)∧∀ x ∈ L',∀ ad,x.a = some ad→x.e.tasks ≠ []→(Value.slice a L'.length c).ownBlock ≠ some ad.block
theorem ent_cap {K:Nat→Prop} {w:World} {x:EntM} (h:x.ok K w):x.e.tasks.length * 32≤140737488351232:=h.2.2.2.2
abbrev EntM.obj (x:EntM):Obj:=.cells #[.int .i64 x.e.cl,.int .i64 x.e.nu,.int .i64 x.e.kd,.int .i64 x.e.id,.int .i64 x.e.srv.k,.int .i64 x.e.srv.q,.int .i64 x.e.srv.t,.int .i64 x.e.po,.slice x.a x.e.tasks.length x.c,.int .i64 x.e.at_] 73
def poly:Nat:=0xedb88320
def bit1 (w:Nat):Nat:=(w / 2) ^^^ (if w % 2 = 1 then poly else 0)
def bitN:Nat→Nat→Nat
 | 0,w => w
 | k + 1,w => bitN k (bit1 w)
theorem xor_left_comm (a b c:Nat):a ^^^ (b ^^^ c) = b ^^^ (a ^^^ c):=by rw [← Nat.xor_assoc,Nat.xor_comm a b,Nat.xor_assoc]
theorem bit1_xor (a b:Nat):bit1 (a ^^^ b) = bit1 a ^^^ bit1 b:=by
 unfold bit1;rw [Nat.xor_div_two];have ha:=Nat.mod_two_eq_zero_or_one a;have hb:=Nat.mod_two_eq_zero_or_one b;generalize a / 2 = x at *;generalize b / 2 = y at *;rcases ha with ha | ha <;> rcases hb with hb | hb
 ·rw [if_neg (by rw [Nat.xor_mod_two_eq_one];omega),if_neg (by omega),if_neg (by omega)];simp
 ·rw [if_pos (by rw [Nat.xor_mod_two_eq_one];omega),if_neg (by omega),if_pos hb,Nat.xor_zero,Nat.xor_assoc]
 ·rw [if_pos (by rw [Nat.xor_mod_two_eq_one];omega),if_pos ha,if_neg (by omega),Nat.xor_zero,Nat.xor_assoc,Nat.xor_assoc,Nat.xor_comm y poly]
 ·rw [if_neg (by rw [Nat.xor_mod_two_eq_one];omega),if_pos ha,if_pos hb,Nat.xor_zero,Nat.xor_assoc,xor_left_comm poly,Nat.xor_self,Nat.xor_zero]
theorem bitN_xor:∀ (k a b:Nat),bitN k (a ^^^ b) = bitN k a ^^^ bitN k b
 | 0,_,_ => rfl
 | k + 1,a,b => by rw [bitN,bitN,bitN,bit1_xor,bitN_xor k]
theorem bitN_split:∀ (k X:Nat),bitN k X = X / 2 ^ k ^^^ bitN k (X % 2 ^ k)
 | 0,X => by simp [bitN,Nat.mod_one]
 | k + 1,X => by
  have h1:X % 2 ^ (k + 1) % 2 = X % 2:=Nat.mod_mod_of_dvd X (Nat.pow_dvd_pow 2 (show 1≤k + 1 by omega));have h2:X % 2 ^ (k + 1) / 2 = (X / 2) % 2 ^ k:=by
   rw [Nat.pow_succ,Nat.mul_comm];exact Nat.mod_mul_right_div_self X 2 (2 ^ k)
  rw [bitN,bitN];unfold bit1;rw [h1,h2,bitN_xor,bitN_xor,bitN_split k (X / 2),Nat.div_div_eq_div_mul,Nat.pow_succ,Nat.mul_comm 2,Nat.xor_assoc]
def upd (w c:Nat):Nat:=(w / 256) ^^^ bitN 8 ((w % 256) ^^^ c)
theorem upd_ref {c:Nat} (hc:c < 256) (w:Nat):bitN 8 (w ^^^ c) = upd w c:=by
 rw [bitN_split 8 (w ^^^ c),Nat.xor_div_two_pow,Nat.xor_mod_two_pow,Nat.mod_eq_of_lt (a:=c) (by simpa using hc),Nat.div_eq_of_lt (a:=c) (by simpa using hc),Nat.xor_zero];rfl
theorem bit1_lt {w:Nat} (h:w < 4294967296):bit1 w < 4294967296:=by
 unfold bit1;refine Nat.xor_lt_two_pow (n:=32) (by omega) ?_;split
 ·decide
 ·decide
theorem bitN_lt:∀ (k:Nat) {w:Nat},w < 4294967296→bitN k w < 4294967296
 | 0,_,h => h
 | k + 1,_,h => bitN_lt k (bit1_lt h)
theorem upd_lt {w c:Nat} (h:w < 4294967296) (hc:c < 256):upd w c < 4294967296:=by
 rw [← upd_ref hc];exact bitN_lt 8 (Nat.xor_lt_two_pow (n:=32) h (by omega))
def crcW (w:Nat) (l:List UInt8):Nat:=l.foldl (fun w c => upd w c.toNat) w
theorem crcW_append (w:Nat) (a b:List UInt8):crcW w (a ++ b) = crcW (crcW w a) b:=List.foldl_append
theorem crcW_snoc (w:Nat) (a:List UInt8) (c:UInt8):crcW w (a ++ [c]) = upd (crcW w a) c.toNat:=by rw [crcW_append];rfl
theorem crcW_lt:∀ (l:List UInt8) {w:Nat},w < 4294967296→crcW w l < 4294967296
 | [],_,h => h
 | c :: l,_,h => crcW_lt l (upd_lt h c.toNat_lt)
def crc (l:List UInt8):Nat:=4294967295 - crcW 4294967295 l
theorem crc_lt (l:List UInt8):crc l < 4294967296:=by unfold crc;omega
theorem not_xor {x:Nat} (h:x < 4294967296):x ^^^ 4294967295 = 4294967295 - x:=by
 have h1:=congrArg BitVec.toNat (BitVec.xor_allOnes (x:=BitVec.ofNat 32 x));rw [BitVec.toNat_xor,BitVec.toNat_not,BitVec.toNat_ofNat,Nat.mod_eq_of_lt (by simpa using h)] at h1;exact h1
def le32 (n:Nat):List UInt8:=[UInt8.ofNat n,UInt8.ofNat (n / 256),UInt8.ofNat (n / 65536),UInt8.ofNat (n / 16777216)]
def un32 (l:List UInt8):Nat:=match l with
 | a :: b :: c :: d :: _ => a.toNat + 256 * b.toNat + 65536 * c.toNat + 16777216 * d.toNat
 | _ => 0
theorem un32_le32 {n:Nat} (h:n < 4294967296) (r:List UInt8):un32 (le32 n ++ r) = n:=by
 simp only [le32,List.cons_append,un32,UInt8.toNat_ofNat'];omega
theorem un32_lt (l:List UInt8):un32 l < 4294967296:=by
 unfold un32;split
 ·rename_i a b c d _;have:=a.toNat_lt;have:=b.toNat_lt;have:=c.toNat_lt;have:=d.toNat_lt;omega
 ·omega
def frameB (p:List UInt8):List UInt8:=le32 p.length ++ p ++ le32 (crc (le32 p.length ++ p))
theorem frameB_len (p:List UInt8):(frameB p).length = p.length + 8:=by unfold frameB;simp [le32]
abbrev byteC (b:UInt8):List Value:=[.int .u8 (b.toNat:Int)]
theorem byteC_len (b:UInt8):(byteC b).length = 1:=rfl
theorem byteC_one (b:UInt8):∀ u ∈ byteC b,u.oneCell' = true:=by intro u hu;simp at hu;subst hu;rfl
def BytesAt (w:World) (a:Option Addr) (l:List UInt8):Prop:=RecsAt 1 byteC w a l
theorem BytesAt.get {w:World} {a:Option Addr} {l:List UInt8} (h:BytesAt w a l) {i:Nat} {d:UInt8} (hd:l[i]? = some d):∃ b off,a = some ⟨b,off,none⟩∧b < w.heap.size∧w.cell? ⟨b,off + i,none⟩ = some (.int .u8 (d.toNat:Int)):=by
 obtain ⟨b,off,ha,hb,hc⟩:=h i d hd;exact ⟨b,off,ha,hb,by have:=hc 0 _ rfl;rwa [Nat.mul_one,Nat.add_zero] at this⟩
theorem BytesAt.gr {w w':World} {a:Option Addr} {l:List UInt8} (h:BytesAt w a l) (g:Gr w w'):BytesAt w' a l:=by
 intro i s hi;obtain ⟨b,off,ha,hb,hc⟩:=h i s hi;exact ⟨b,off,ha,Nat.lt_of_lt_of_le hb g.size,fun j u hu => by rw [g.cells.1 _ _ hb];exact hc j u hu⟩
theorem wraps_u32 (n:Int) (h₀:0≤n) (h₁:n < 2 ^ 32):IntKind.u32.wrap n = n:=by rw [IntKind.wrap_u32];omega
theorem xor_nat (k:IntKind) (j:Nat) (hj:j≤k.bits) (hk:∀ n:Int,0≤n→n < 2 ^ j→k.wrap n = n) (a b:Nat) (ha:a < 2 ^ j) (hb:b < 2 ^ j):bits .xor k a b = ((a ^^^ b:Nat):Int):=by
 have hp:2 ^ j≤2 ^ k.bits:=Nat.pow_le_pow_right (by decide) hj;have ha':a % 2 ^ k.bits = a:=Nat.mod_eq_of_lt (Nat.lt_of_lt_of_le ha hp);have hb':b % 2 ^ k.bits = b:=Nat.mod_eq_of_lt (Nat.lt_of_lt_of_le hb hp);simp only [bits,BitVec.ofInt_natCast,BitVec.toNat_xor,BitVec.toNat_ofNat,ha',hb'];exact hk _ (Int.natCast_nonneg _) (by exact_mod_cast Nat.xor_lt_two_pow ha hb)
theorem xor_u32 {a b:Nat} (ha:a < 4294967296) (hb:b < 4294967296):bits .xor .u32 a b = ((a ^^^ b:Nat):Int):=xor_nat .u32 32 (by decide) wraps_u32 a b ha hb
theorem xor_u8 {a b:Nat} (ha:a < 256) (hb:b < 256):bits .xor .u8 a b = ((a ^^^ b:Nat):Int):=xor_nat .u8 8 (by decide) wraps_u8 a b ha hb
theorem and_u32 {a b:Nat} (ha:a < 4294967296) (hb:b < 4294967296):bits .and .u32 a b = ((a &&& b:Nat):Int):=(bits_nat .u32 32 (by decide) wraps_u32 a b ha hb).1
theorem and_one (a:Nat):a &&& 1 = a % 2:=Nat.and_two_pow_sub_one_eq_mod a 1
theorem bit1_val {m:Nat} (hm:m < 4294967296):bits .xor .u32 ((m:Int) / 2) (bits .and .u32 3988292384 (-((m:Int) % 2) % 4294967296)) = ((bit1 m:Nat):Int):=by
 have hq:(m:Int) / 2 = ((m / 2:Nat):Int):=rfl;unfold bit1;by_cases h:m % 2 = 1
 ·have e1:-((m:Int) % 2) % 4294967296 = ((4294967295:Nat):Int):=by omega
  have e2:bits .and .u32 3988292384 ((4294967295:Nat):Int) = ((poly:Nat):Int):=by
   have:=and_u32 (a:=poly) (b:=4294967295) (by decide) (by decide);rw [show poly &&& 4294967295 = poly by decide] at this;exact this
  rw [e1,e2,hq,xor_u32 (by omega) (by decide),if_pos h]
 ·have e1:-((m:Int) % 2) % 4294967296 = ((0:Nat):Int):=by omega
  have e2:bits .and .u32 3988292384 ((0:Nat):Int) = ((0:Nat):Int):=by
   have:=and_u32 (a:=poly) (b:=0) (by decide) (by decide);rw [show poly &&& 0 = 0 by decide] at this;exact this
  rw [e1,e2,hq,xor_u32 (by omega) (by decide),if_neg h]
set_option maxHeartbeats 800000 in
theorem step_any (n:Nat) (hn:n < 4294967296) (w:World) :
 Calls Tryz.prog 183 #[.int .u32 n] w fun e w' => e = .returned (.int .u32 (bitN 8 n))∧w = w':=by
 go_enter Tryz.func183,Tryz.ntmps183;go_wp2_with fail;go_loop [4,0] (fun iv nv => ∃ k:Nat,∃ m:Nat,k≤8∧iv = .int .i64 k∧nv = .int .u32 m∧m < 4294967296∧bitN (8 - k) m = bitN 8 n) (fun iv _ => 8 - (intOf iv).toNat);case atStart => exact ⟨0,n,by omega,rfl,rfl,hn,rfl⟩
 case round =>
  obtain ⟨k,m,hk,rfl,rfl,hm,he⟩:=hrel;by_cases hlt:k < 8
  ·have hlt2:(k:Int) < 8:=by omega
   have h1:bits .and .u32 (m:Int) 1 = ((m % 2:Nat):Int):=by
    have:=and_u32 (a:=m) (b:=1) hm (by omega);rw [and_one] at this;exact this
   have hv:=bit1_val hm;have he2:bitN (8 - (k + 1)) (bit1 m) = bitN 8 n:=by rw [← he,show 8 - k = 8 - (k + 1) + 1 by omega];rfl
   replace he2:=Lib.hid he2;replace he:=Lib.hid he;go_wp2_with fail;go_round;case rel => exact ⟨k + 1,bit1 m,by omega,by go_num,rfl,bit1_lt hm,he2.out⟩
   case measure => simp [intOf];omega
  ·obtain rfl:k = 8:=by omega
   have hm2:m = bitN 8 n:=he;replace he:=Lib.hid hm2;go_wp2_with fail;go_ret;exact ⟨rfl,rfl⟩
set_option maxHeartbeats 800000 in
theorem update_any (a:Option Addr) (c:Nat) (l:List UInt8) (n:Nat) (hn:n < 4294967296) (w:World) (h:BytesAt w a l) (hm:l.length≤maxLen) :
 Calls Tryz.prog 176 #[.int .u32 n,.slice a l.length c] w fun e w' => e = .returned (.int .u32 (crcW n l))∧w = w':=by
 have hmm:=hm;unfold maxLen at hmm;go_enter Tryz.func176,Tryz.ntmps176;go_wp2_with fail;go_loop [9,0] (fun iv nv => ∃ k:Nat,k≤l.length∧iv = .int .i64 k∧nv = .int .u32 (crcW n (l.take k))) (fun iv _ => l.length - (intOf iv).toNat);case atStart => exact ⟨0,Nat.zero_le _,rfl,rfl⟩
 case round =>
  obtain ⟨k,hk,rfl,rfl⟩:=hrel;by_cases hlt:k < l.length
  ·obtain ⟨x,hx⟩:=get_some l k hlt;obtain ⟨b,off,rfl,hb,c0⟩:=h.get hx;have hc:=x.toNat_lt;have hw:=crcW_lt (l.take k) hn;have hs:crcW n (l.take (k + 1)) = upd (crcW n (l.take k)) x.toNat:=by rw [take_snoc hx,crcW_snoc]
   generalize crcW n (l.take k) = m at *;have e1:bits .xor .u8 ((m:Int) % 256) (x.toNat:Int) = (((m % 256) ^^^ x.toNat:Nat):Int):=xor_u8 (a:=m % 256) (by omega) (by omega);have hx8:(m % 256) ^^^ x.toNat < 2 ^ 8:=Nat.xor_lt_two_pow (by omega) (by omega);have hst:=fun w => step_any ((m % 256) ^^^ x.toNat) (by omega) w
   have hb8:=bitN_lt 8 (w:=(m % 256) ^^^ x.toNat) (by omega);have e2:bits .xor .u32 ((m:Int) / 256) ((bitN 8 ((m % 256) ^^^ x.toNat):Nat):Int) = ((upd m x.toNat:Nat):Int):=xor_u32 (a:=m / 256) (by omega) hb8;generalize hz:(m % 256) ^^^ x.toNat = z at *;generalize bitN 8 z = y at *;generalize upd m x.toNat = u at *;replace hs:=Lib.hid hs;replace hst:=Lib.hid hst;replace hx:=Lib.hid hx;replace hz:=Lib.hid hz;go_wp2_with fail;refine (hst.out _).mono ?_;rintro e w2 ⟨rfl,rfl⟩;go_wp2_with fail;go_round;case rel => exact ⟨k + 1,by omega,by go_num,by rw [hs.out]⟩
   case measure => simp [intOf];omega
  ·have hall:l.take k = l:=List.take_of_length_le (by omega);rw [hall];go_wp2_with fail;go_ret;exact ⟨rfl,rfl⟩
theorem csum_any (a:Option Addr) (c:Nat) (l:List UInt8) (w:World) (h:BytesAt w a l) (hm:l.length≤maxLen) :
 Calls Tryz.prog 157 #[.slice a l.length c] w fun e w' => e = .returned (.int .u32 (crc l))∧w = w':=by
 have hu:=update_any a c l 4294967295 (by omega) w h hm;have hw:=crcW_lt l (w:=4294967295) (by omega);unfold crc;generalize crcW 4294967295 l = m at *;have hv:bits .xor .u32 IntKind.u32.max (m:Int) = ((4294967295 - m:Nat):Int):=by
  have:=xor_u32 (a:=4294967295) (b:=m) (by omega) hw;rw [Nat.xor_comm,not_xor hw] at this;exact this
 replace hv:=Lib.hid hv;replace hu:=Lib.hid hu;go_enter Tryz.func157,Tryz.ntmps157;go_wp2_with fail;refine hu.out.mono ?_;rintro e w2 ⟨rfl,rfl⟩;go_wp2_with fail;go_ret;exact ⟨congrArg (fun v => Ending.returned (.int .u32 v)) hv.out,rfl⟩
theorem Tryz.infoU8:(Tryz.prog.info? 5).map (fun i => (i.zero,i.size,i.bytes)) = some (some (.int .u8 0),1,1):=by kernel_rfl
theorem recs_alloc1 {α:Type} {k:Nat} {enc:α→List Value} (hk:∀ s,(enc s).length = k) (W:World) {n:Nat} (hn:W.heap.size = n) (l:List α) (e:TypeId) (cs:Array Value) (h:cs.toList = l.flatMap enc):RecsAt k enc (W.alloc (.cells cs e)) (some ⟨n,0,none⟩) l:=by
 subst hn;exact recs_alloc hk W l e cs h
def Own (W w:World) (a:Option Addr) (c:Nat) (l:List UInt8):Prop:=w.ownsRow W.heap.size 5 1 (.slice a l.length c) l.length (l.flatMap byteC)∧BytesAt w a l∧(a = none→c = 0)∧(∀ x,a = some x→W.heap.size≤x.block)∧Gr W w
theorem Own.nil (W w:World) (g:Gr W w):Own W w none 0 []:=⟨World.ownsRow_nil _ _ _ _,fun i s hi => by simp at hi,(fun _ => rfl),(fun x hx => by cases hx),g⟩
theorem Own.of {W w:World} {v:Value} {l:List UInt8} (h:w.ownsRow W.heap.size 5 1 v l.length (l.flatMap byteC)) (g:Gr W w):∃ a c,v = .slice a l.length c∧Own W w a c l:=by
 obtain ⟨a,c,rfl,hr,hn,hb⟩:=recs_of_owns byteC_len h;exact ⟨a,c,rfl,h,hr,hn,hb,g⟩
theorem Own.gr {W w w':World} {a:Option Addr} {c:Nat} {l:List UInt8} (h:Own W w a c l) (g:Gr w w'):Own W w' a c l:=⟨owns_gr h.1 g,h.2.1.gr g,h.2.2.1,h.2.2.2.1,h.2.2.2.2.trans g⟩
theorem le32_len (n:Nat):(le32 n).length = 4:=rfl
theorem le32_cells {n:Nat} (hn:n < 4294967296):#[Value.int .u8 ((n:Int) % 256),.int .u8 ((n:Int) / 256 % 256),.int .u8 ((n:Int) / 65536 % 256),.int .u8 ((n:Int) / 16777216)].toList = (le32 n).flatMap byteC:=by
 have e:∀ m:Nat,((UInt8.ofNat m).toNat:Int) = (m:Int) % 256:=fun m => by rw [UInt8.toNat_ofNat'];rfl
 have e2:(n:Int) / 16777216 = ((n / 16777216:Nat):Int) % 256:=by omega
 rw [e2];simp only [le32,byteC,List.flatMap_cons,List.flatMap_nil,e,List.cons_append,List.nil_append];rfl
set_option maxRecDepth 100000 in
set_option maxHeartbeats 800000 in
theorem put_any (W w:World) (a:Option Addr) (c:Nat) (l:List UInt8) (n:Nat) (hn:n < 4294967296) (h:Own W w a c l) (hm:l.length≤1000000) :
 Calls Tryz.prog 156 #[.slice a l.length c,.int .u32 n] w fun e w' => ∃ a' c',e = .returned (.slice a' (l ++ le32 n).length c')∧Own W w' a' c' (l ++ le32 n):=by
 obtain ⟨i5,hi,hz0,hz1,hz2⟩:=info_parts Tryz.infoU8;obtain ⟨hown,hr,hc,hb,g⟩:=h;have n1:l.length + (le32 n).length≤maxLen:=by rw [le32_len];unfold maxLen;omega
 have n2:(l.length + (le32 n).length) * 1≤140737488355328:=by rw [le32_len];omega
 have n3:=g.size;replace hr:=Lib.hid hr;replace hb:=Lib.hid hb;replace hc:=Lib.hid hc;go_enter Tryz.func156,Tryz.ntmps156;go_wp2_with (at_builtin;go_loud (refine wpList_append_recs (k:=1) (enc:=byteC) rfl _ _ 91 rfl W.heap.size 5 i5 _ 1 Tryz.underlying91 hi hz0 hz1 hz2 rfl (by decide) byteC_len byteC_one (.slice a l.length c) l rfl (owns_gr hown ((Gr.refl w).alloc _)) (some ⟨w.heap.size,0,none⟩) 4 (le32 n) rfl (recs_alloc byteC_len w (le32 n) _ _ (le32_cells hn)) (fun h => by cases h) n1 n2 (le_alloc n3 _) ?_;intro v1 w1 hown1 hgr1;have hg1:Gr W w1:=(g.alloc _).grown hgr1 (own_block hown)));go_ret;obtain ⟨a',c',rfl,ho⟩:=Own.of hown1 hg1;exact ⟨a',c',rfl,ho⟩
set_option maxRecDepth 100000 in
set_option maxHeartbeats 1600000 in
theorem frame_any (w:World) (a:Option Addr) (c:Nat) (l:List UInt8) (h:BytesAt w a l) (hc:a = none→c = 0) (hl:l.length≤32768) :
 Calls Tryz.prog 119 #[.slice a l.length c] w fun e w' => ∃ a' c',e = .returned (.tuple #[.slice a' (frameB l).length c',.nilIface])∧Own w w' a' c' (frameB l):=by
 obtain ⟨i5,hi,hz0,hz1,hz2⟩:=info_parts Tryz.infoU8;have hp1:=put_any w w none 0 [] l.length (by omega) (Own.nil w w (Gr.refl w)) (by simp);have hfl:=frameB_len l;obtain ⟨L2,hL2⟩:∃ L2,L2 = le32 l.length ++ l:=⟨_,rfl⟩
 have hL2l:L2.length = 4 + l.length:=by rw [hL2,List.length_append,le32_len]
 have hsu:=fun a1 c1 w1 (hb:BytesAt w1 a1 L2) => csum_any a1 c1 L2 w1 hb (by unfold maxLen;omega)
 have hp2:=fun a1 c1 w1 (ho:Own w w1 a1 c1 L2) => put_any w w1 a1 c1 L2 (crc L2) (crc_lt _) ho (by omega)
 have hfr:L2 ++ le32 (crc L2) = frameB l:=by rw [hL2];rfl
 rw [hfr] at hp2;have n1:(le32 l.length).length + l.length≤maxLen:=by rw [le32_len];unfold maxLen;omega
 have n2:((le32 l.length).length + l.length) * 1≤140737488355328:=by rw [le32_len];omega
 rw [show ([]:List UInt8) ++ le32 l.length = le32 l.length from rfl] at hp1;replace hp1:=Lib.hid hp1;replace hp2:=Lib.hid hp2;replace hsu:=Lib.hid hsu;replace h:=Lib.hid h;replace hfl:=Lib.hid hfl;replace hL2:=Lib.hid hL2;replace hfr:=Lib.hid hfr;replace hL2l:=Lib.hid hL2l;go_enter Tryz.func119,Tryz.ntmps119;go_wp2_with fail;refine hp1.out.mono ?_;rintro e w1 ⟨a1,c1,rfl,ho1⟩;obtain ⟨ow,br,bn,bb,g1⟩:=ho1;have n3:=g1.size;have hs1:=h.out.gr g1;replace br:=Lib.hid br;replace bb:=Lib.hid bb;replace bn:=Lib.hid bn;replace hs1:=Lib.hid hs1;go_wp2_with (at_builtin;go_loud (refine wpList_append_recs (k:=1) (enc:=byteC) rfl _ _ 91 rfl w.heap.size 5 i5 _ 1 Tryz.underlying91 hi hz0 hz1 hz2 rfl (by decide) byteC_len byteC_one (.slice a1 (le32 l.length).length c1) (le32 l.length) rfl ow a c l rfl hs1.out hc n1 n2 n3 ?_;intro v2 w2 hown2 hgr2;rw [← hL2.out] at hown2;have g2:Gr w w2:=g1.grown hgr2 (own_block ow);obtain ⟨a2,c2,hv2,ho2⟩:=Own.of hown2 g2;subst hv2;have hb2:=ho2.2.1;replace ho2:=Lib.hid ho2;replace hb2:=Lib.hid hb2));refine (hsu.out a2 c2 w2 hb2.out).mono ?_;rintro e w3 ⟨rfl,rfl⟩;go_wp2_with fail;refine (hp2.out a2 c2 w2 ho2.out).mono ?_;rintro e w4 ⟨a4,c4,rfl,ho4⟩;replace ho4:=Lib.hid ho4;go_wp2_with fail;go_ret2;exact ⟨a4,c4,rfl,ho4.out⟩
theorem or_low (i:Nat) (hi:i≤32) {x y:Nat} (hx:x < 2 ^ i) (hy:y * 2 ^ i < 4294967296):bits .or .u32 (x:Int) ((y * 2 ^ i:Nat):Int) = ((x + y * 2 ^ i:Nat):Int):=by
 have h1:2 ^ i≤2 ^ 32:=Nat.pow_le_pow_right (by decide) hi;rw [(bits_nat .u32 32 (by decide) wraps_u32 x (y * 2 ^ i) (Nat.lt_of_lt_of_le hx h1) hy).2,Nat.or_comm,Nat.mul_comm,← Nat.two_pow_add_eq_or_of_lt hx y,Nat.add_comm]
theorem or_word {a b c d:Nat} (ha:a < 2 ^ 8) (hb:b < 2 ^ 8) (hc:c < 2 ^ 8) (hd:d < 2 ^ 8) :
 bits .or .u32 (bits .or .u32 (bits .or .u32 (a:Int) ((b:Int) * 256)) ((c:Int) * 65536)) ((d:Int) * 16777216) = ((a + 256 * b + 65536 * c + 16777216 * d:Nat):Int):=by
 have h1:bits .or .u32 (a:Int) ((b:Int) * 256) = ((a + b * 256:Nat):Int):=or_low 8 (by decide) ha (by omega);have h2:bits .or .u32 ((a + b * 256:Nat):Int) ((c:Int) * 65536) = ((a + b * 256 + c * 65536:Nat):Int):=or_low 16 (by decide) (by omega) (by omega);have h3:bits .or .u32 ((a + b * 256 + c * 65536:Nat):Int) ((d:Int) * 16777216) = ((a + b * 256 + c * 65536 + d * 16777216:Nat):Int):=or_low 24 (by decide) (by omega) (by omega);rw [h1,h2,h3];omega
set_option maxHeartbeats 1600000 in
theorem get_any (w:World) (b o n c:Nat) (x0 x1 x2 x3:UInt8) (hn:4≤n) (h0:w.cell? ⟨b,o,none⟩ = some (.int .u8 (x0.toNat:Int))) (h1:w.cell? ⟨b,o + 1,none⟩ = some (.int .u8 (x1.toNat:Int))) (h2:w.cell? ⟨b,o + 2,none⟩ = some (.int .u8 (x2.toNat:Int))) (h3:w.cell? ⟨b,o + 3,none⟩ = some (.int .u8 (x3.toNat:Int))) :
 Calls Tryz.prog 175 #[.slice (some ⟨b,o,none⟩) n c] w fun e w' => e = .returned (.int .u32 (un32 [x0,x1,x2,x3]))∧Gr w w':=by
 have q0:=GrW.cell h0;have q1:=GrW.cell h1;have q2:=GrW.cell h2;have q3:=GrW.cell h3;have t0:=x0.toNat_lt;have t1:=x1.toNat_lt;have t2:=x2.toNat_lt;have t3:=x3.toNat_lt;have m1:(1:Int) < n:=by omega
 have m2:(2:Int) < n:=by omega
 have m3:(3:Int) < n:=by omega
 have m0:(0:Int) < n:=by omega
 go_enter Tryz.func175,Tryz.ntmps175;go_wp2_with fail;refine wp_region_grows (by kernel_rfl) (by kernel_rfl) ?_;repeat (any_goals (first | go_big_quiet_step (first | fail) | quiet_step (first | fail)))
 refine wpQuiet_nil ?_;intro wz hwq;have gz:=GrW.of hwq;clear hwq;obtain ⟨cz,fz,sz⟩:=gz.cells;try simp only [size_drewN] at cz fz sz
 try simp only [World.size_alloc] at cz fz sz
 try simp only [World.size_drew] at cz fz sz
 try simp only [World.size_setCell] at cz fz sz
 go_wp2_with fail;go_ret;exact ⟨congrArg (fun v => Ending.returned (.int .u32 v)) (or_word t0 t1 t2 t3),gz⟩
end Go.Proofs.YteigofaccjaobaaGreatDoor
