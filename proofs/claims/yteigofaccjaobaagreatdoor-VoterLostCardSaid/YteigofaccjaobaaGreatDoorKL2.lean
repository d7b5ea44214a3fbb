/- wire.Writer: NewWriter, Num, Bytes, Done; slices.Clone of bytes; desk.framed. slices.Clone of bytes; wire.Writer.Done; desk.framed. -/
import Derived.Test.YteigofaccjaobaaGreatDoorKL1
import Derived.Deep.DeepCutAuto
import Derived.Deep.AppendLies
import Derived.Deep.OwnRows
import Derived.Deep.Light
namespace Go.Proofs.YteigofaccjaobaaGreatDoor
open Go.RowKit
theorem wpList_append_at {α:Type} {k:Nat} {enc:α→List Value} {P:Program} {w:World} {ops:Array Oper} {rest:List Oper} {o:Oper} {a:Act} {Q:Exit→Act→World→Prop} (hgd:o.guard = none) (s x:Operand) (t:TypeId)
 (ho:o.op = .call { callee:=.builtin .append,args:=#[s,x],argTypes:=#[t,t] })
 (base:Nat) (e:TypeId) (i:TypeInfo) (z:Value) (bytes:Nat) (ht:P.underlying t = some (.slice e)) (hi:P.info? e = some i) (hz:i.zero = some z)
 (hsize:i.size = k) (hby:i.bytes = bytes) (hzs:z.cells.size = k) (hsz:0 < k)
 (hk:∀ s,(enc s).length = k) (h1:∀ s,∀ u ∈ enc s,u.oneCell' = true)
 (v:Value) (l0:List α) (hs:a.eval s = v) (hown:w.ownsRow base e k v l0.length (l0.flatMap enc))
 (sa:Option Addr) (c:Nat) (l:List α) (hx:a.eval x = .slice sa l.length c) (hl:RecsAt k enc w sa l) (hc:sa = none→c = 0)
 (h63:l0.length + l.length≤maxLen) (hbytes:(l0.length + l.length) * bytes≤140737488355328) (hbase:base≤w.heap.size)
 (h:∀ v' w',w'.ownsRow base e k v' (l0 ++ l).length ((l0 ++ l).flatMap enc)→w.grownBy w' v.ownBlock→(v'.ownBlock = v.ownBlock ∨ v'.ownBlock = some w.heap.size)→wpList P ops Q rest (a.put o.dst v') w'):wpList P ops Q (o :: rest) a w:=by
 cases sa with
 | none =>
  obtain rfl:=hc rfl;obtain rfl:l = []:=by
   cases l with
   | nil => rfl
   | cons y r => obtain ⟨b,off,hh,_⟩:=hl 0 y rfl;cases hh
  refine wpList_append_own_none hgd s x t ho base e i k ht hi v l0.length (l0.flatMap enc) hs hown hx ?_;exact h v w (by simpa using hown) ⟨rfl,rfl,rfl,Nat.le_refl _,fun _ _ _ => rfl⟩ (.inl rfl)
 | some ad =>
  refine wpList_append_own_at w hgd s x t ho base e i z k bytes ht hi hz hsize hby hzs hsz v l0.length (l0.flatMap enc) hs hown ad l.length c (l.flatMap enc) hx (flat_len hk l) ?_ ?_ h63 hbytes hbase ?_
  ·intro j u hj;obtain ⟨y,hy,hu⟩:=flat_at hk hsz l j u hj;obtain ⟨b,off,hh,_,hcell⟩:=hl _ y hy;obtain rfl:=Option.some.inj hh;have:=hcell _ u hu;have e1:off + j / k * k + j % k = off + j:=by rw [Nat.add_assoc,Nat.mul_comm,Nat.div_add_mod]
   rw [e1] at this;unfold Addr.add;by_cases hj0:j = 0
   ·subst hj0;simpa using this
   ·simpa [hj0] using this
  ·intro u hu;obtain ⟨y,_,hy⟩:=List.mem_flatMap.1 hu;exact h1 y u hy
  ·intro v' w' ho' hg' _ h5;exact h v' w' (by simpa using ho') hg' h5
theorem Blk.grown {w w':World} {b:Nat} {cs:Array Value} {t:TypeId} {row:Option Nat} (h:Blk w b cs t) (hg:w.grownBy w' row) (hn:some b ≠ row):Blk w' b cs t:=by unfold Blk;rw [hg.block b h.lt hn];exact h
theorem BytesAt.grown {w w':World} {a:Option Addr} {l:List UInt8} {row:Option Nat} (h:BytesAt w a l) (hg:w.grownBy w' row) (hne:∀ x,a = some x→l ≠ []→row ≠ some x.block):BytesAt w' a l:=RecsAt.grown h hg hne
def numB (n:Nat):List UInt8:=if h:n < 128 then [UInt8.ofNat n] else UInt8.ofNat (n % 128 + 128) :: numB (n / 128)
termination_by n
decreasing_by omega
theorem numB_small {n:Nat} (h:n < 128):numB n = [UInt8.ofNat n]:=by rw [numB,dif_pos h]
theorem numB_great {n:Nat} (h:¬ n < 128):numB n = UInt8.ofNat (n % 128 + 128) :: numB (n / 128):=by rw [numB,dif_neg h]
theorem numB_len:∀ (k:Nat) {n:Nat},n < 128 ^ (k + 1)→(numB n).length≤k + 1
 | k,n,h => by
  by_cases hs:n < 128
  ·rw [numB_small hs];simp
  ·rw [numB_great hs];cases k with
   | zero => simp at h;omega
   | succ k =>
    have:=numB_len k (n:=n / 128) (by rw [Nat.pow_succ] at h;exact Nat.div_lt_of_lt_mul (by rw [Nat.mul_comm];exact h));simp;omega
theorem numB_10 {n:Nat} (h:n < 9223372036854775808):(numB n).length≤10:=numB_len 9 (by omega)
theorem numB_6 {n:Nat} (h:n≤1099511627776):(numB n).length≤6:=numB_len 5 (by omega)
def WrAt (W w:World) (wb B:Nat) (L:List UInt8):Prop:=∃ a c,Blk w wb #[.slice a L.length c,.bool false] 208∧Own W w a c L∧W.heap.size≤wb∧wb < B∧(∀ x,a = some x→x.block < B∧x.block ≠ wb)∧B≤w.heap.size
theorem WrAt.gr {W w w':World} {wb B:Nat} {L:List UInt8} (h:WrAt W w wb B L) (g:Gr w w'):WrAt W w' wb B L:=by
 obtain ⟨a,c,h1,h2,h3,h4,h5,h6⟩:=h;exact ⟨a,c,h1.gr g,h2.gr g,h3,h4,h5,Nat.le_trans h6 g.size⟩
theorem WrAt.world {W w:World} {wb B:Nat} {L:List UInt8} (h:WrAt W w wb B L):Gr W w:=by
 obtain ⟨a,c,h1,h2,_⟩:=h;exact h2.2.2.2.2
theorem WrAt.full {W w:World} {wb B:Nat} {L:List UInt8} (h:WrAt W w wb B L):WrAt W w wb w.heap.size L:=by
 obtain ⟨a,c,h1,h2,h3,h4,h5,h6⟩:=h;exact ⟨a,c,h1,h2,h3,by omega,fun x hx => ⟨by have:=(h5 x hx).1;omega,(h5 x hx).2⟩,Nat.le_refl _⟩
theorem newWriter_any (w:World):Calls Tryz.prog 69 #[] w fun e w' => e = .returned (.pointer (some ⟨w.heap.size,0,none⟩))∧WrAt w w' w.heap.size w'.heap.size []:=by
 go_enter Tryz.func69,Tryz.ntmps69;go_wp2_with fail;go_ret;exact ⟨rfl,none,0,Blk.new w _ _,Own.nil w _ ((Gr.refl w).alloc _),Nat.le_refl _,by simp,(fun x hx => by cases hx),Nat.le_refl _⟩
theorem or128 {m:Nat} (h:m < 128):bits .or .u8 (m:Int) 128 = ((m + 128:Nat):Int):=by
 have:=(bits_nat .u8 8 (by decide) wraps_u8 m 128 (by omega) (by omega)).2;rw [Nat.or_comm,show (128:Nat) = 2 ^ 7 * 1 from rfl,← Nat.two_pow_add_eq_or_of_lt (by omega) 1] at this;rw [show ((2 ^ 7 * 1:Nat):Int) = 128 from rfl] at this;rw [this];omega
theorem and127 (n:Nat) (h:n < 9223372036854775808):bits .and .i64 (n:Int) 127 = ((n % 128:Nat):Int) :=
 bits_mask .i64 63 (by decide) (fun n h₀ h₁ => by rw [IntKind.wrap_i64];omega) 7 (by decide) n (by omega) (by omega)
theorem byte_cell (n:Nat) (h:n < 256):#[Value.int .u8 (n:Int)].toList = [UInt8.ofNat n].flatMap byteC:=by
 have e:((UInt8.ofNat n).toNat:Int) = (n:Int):=by rw [UInt8.toNat_ofNat'];omega
 simp only [List.flatMap_cons,List.flatMap_nil,byteC,e];rfl
theorem own_blk {a:Option Addr} {n c:Nat} {x:Addr} (h:a = some x):(Value.slice a n c).ownBlock = some x.block:=by subst h;rfl
theorem owns_set {w:World} {base:Nat} {e:TypeId} {size:Nat} {v:Value} {n:Nat} {xs:List Value} (h:w.ownsRow base e size v n xs) {p:Addr} (hp:∀ g,v.ownBlock = some g→g ≠ p.block) (u:Value):(w.setCell p u).ownsRow base e size v n xs:=by
 refine ⟨h.1,?_⟩;rcases h.2 with hn | ⟨b,cap,cur,h1,h2,h3,h4⟩
 ·exact .inl hn
 ·refine .inr ⟨b,cap,cur,h1,h2,?_,h4⟩;rw [heap_setCell_other w p b u (hp b (by rw [h1];rfl))];exact h3
theorem BytesAt.set {w:World} {a:Option Addr} {l:List UInt8} (h:BytesAt w a l) {p:Addr} (hp:∀ x,a = some x→x.block ≠ p.block) (u:Value):BytesAt (w.setCell p u) a l:=by
 intro i s hi;obtain ⟨b,off,ha,hb,hc⟩:=h i s hi;refine ⟨b,off,ha,by simp;exact hb,fun j v hv => ?_⟩;have hne:b ≠ p.block:=hp _ ha;rw [World.cell?_of_block (heap_setCell_other w p b u hne)];exact hc j v hv
theorem Own.set {W w:World} {a:Option Addr} {c:Nat} {l:List UInt8} (h:Own W w a c l) {p:Addr} (hp:∀ x,a = some x→x.block ≠ p.block) (hW:W.heap.size≤p.block) (u:Value):Own W (w.setCell p u) a c l:=by
 obtain ⟨h1,h2,h3,h4,h5⟩:=h;refine ⟨owns_set h1 (fun g hg => ?_) u,h2.set hp u,h3,h4,h5.setCell hW u⟩;cases a with
 | none => cases hg
 | some x => cases hg;exact hp x rfl
theorem Own.lt {W w:World} {a:Option Addr} {c:Nat} {l:List UInt8} (h:Own W w a c l) {x:Addr} (hx:a = some x):x.block < w.heap.size:=(owns_lt h.1 _ (own_blk hx)).1
def WrK (W w0 w:World) (wb B:Nat) (L:List UInt8):Prop:=∃ a c,Blk w wb #[.slice a L.length c,.bool false] 208∧Own W w a c L∧W.heap.size≤wb∧wb < B∧(∀ x,a = some x→x.block ≠ wb∧(x.block < B ∨ w0.heap.size≤x.block))∧(∀ k,B≤k→k < w0.heap.size→w.heap[k]? = w0.heap[k]?)∧w0.heap.size≤w.heap.size∧B≤w0.heap.size
theorem WrAt.k {W w:World} {wb B:Nat} {L:List UInt8} (h:WrAt W w wb B L):WrK W w w wb B L:=by
 obtain ⟨a,c,h1,h2,h3,h4,h5,h6⟩:=h;exact ⟨a,c,h1,h2,h3,h4,fun x hx => ⟨(h5 x hx).2,.inl (h5 x hx).1⟩,fun _ _ _ => rfl,Nat.le_refl _,h6⟩
theorem WrK.at {W w0 w:World} {wb B:Nat} {L:List UInt8} (h:WrK W w0 w wb B L):WrAt W w wb w.heap.size L:=by
 obtain ⟨a,c,h1,h2,h3,h4,h5,h6,h7,h8⟩:=h;exact ⟨a,c,h1,h2,h3,h1.lt,fun x hx => ⟨h2.lt hx,(h5 x hx).1⟩,Nat.le_refl _⟩
theorem WrK.put {W w0 wr wm w1:World} {wb B N n0 c0:Nat} {a0:Option Addr} {cs:Array Value} {L2:List UInt8} {a1:Option Addr} {c2:Nat} (hwb:W.heap.size≤wb) (hwB:wb < B) (hB:B≤w0.heap.size) (hb1:Blk w1 wb cs 208) (hcs:∀ v,cs.setIfInBounds 0 v = #[v,.bool false]) (ho1:Own W w1 a1 c2 L2) (hat:(Value.slice a1 L2.length c2).ownBlock = (Value.slice a0 n0 c0).ownBlock ∨ (Value.slice a1 L2.length c2).ownBlock = some N) (hN:w0.heap.size≤N) (hax:∀ x,a0 = some x→x.block ≠ wb∧(x.block < B ∨ w0.heap.size≤x.block))
 (hgr:wm.grownBy w1 (Value.slice a0 n0 c0).ownBlock) (hwm:Gr wr wm) (hk:∀ k,B≤k→k < w0.heap.size→wr.heap[k]? = w0.heap[k]?) (h0r:w0.heap.size≤wr.heap.size) :
 WrK W w0 (w1.setCell ⟨wb,0,none⟩ (.slice a1 L2.length c2)) wb B L2:=by
 have hne:∀ x,a1 = some x→x.block ≠ wb∧(x.block < B ∨ w0.heap.size≤x.block):=fun x hx => by
  rw [own_blk hx] at hat;rcases hat with h | h
  ·cases a0 with
   | none => cases h
   | some y =>
    have:=Option.some.inj h;rw [this];exact hax y rfl
  ·rw [Option.some.inj h];exact ⟨by omega,.inr hN⟩
 have hs1:w0.heap.size≤w1.heap.size:=Nat.le_trans h0r (Nat.le_trans hwm.size hgr.size);refine ⟨a1,c2,by rw [← hcs];exact hb1.set 0 _,ho1.set (fun x hx => (hne x hx).1) hwb _,hwb,hwB,hne,fun k hk1 hk2 => ?_,by simp;exact hs1,hB⟩;rw [heap_setCell_other w1 ⟨wb,0,none⟩ k _ (by show k ≠ wb;omega),hgr.block k (by have:=hwm.size;omega) (fun e => ?_),hwm.block k (by omega),hk k hk1 hk2];cases a0 with
 | none => cases e
 | some y =>
  have h1:=Option.some.inj e;have h2:=(hax y rfl).2;rw [← h1] at h2;omega
set_option maxRecDepth 100000 in
set_option maxHeartbeats 1600000 in
theorem num_anyK (W w0 w:World) (wb B:Nat) (L:List UInt8) (n:Nat) (h:WrK W w0 w wb B L) (hm:L.length≤500000) (hn:n < 9223372036854775808) :
 Calls Tryz.prog 70 #[.pointer (some ⟨wb,0,none⟩),.int .i64 n] w fun e w' => e = .returned (.tuple #[])∧WrK W w0 w' wb B (L ++ numB n):=by
 obtain ⟨i5,hi,hz0,hz1,hz2⟩:=info_parts Tryz.infoU8;have hlen:=numB_10 hn;have h0:=h;replace h:=Lib.hid h;replace hlen:=Lib.hid hlen;go_enter Tryz.func70,Tryz.ntmps70;go_wp2_with fail;go_loopw [1] (fun nv wr => ∃ (m:Nat) (L':List UInt8),nv = .int .i64 m∧m≤n∧L' ++ numB m = L ++ numB n∧WrK W w0 wr wb B L') (fun nv _ => (intOf nv).toNat);case atStart => exact ⟨n,L,rfl,Nat.le_refl _,rfl,h0⟩
 case round =>
  obtain ⟨m,L',rfl,hmn,heq,hW⟩:=hrel;have hll:L'.length≤500010:=by
   have h1:=congrArg List.length heq;rw [List.length_append,List.length_append] at h1;have:=hlen.out;omega
  obtain ⟨a,c,hb,ho,hwb,hwB,hax,hkp,h0r,hBw⟩:=hW;have c0:=hb.cell (i:=0) (v:=.slice a L'.length c) rfl;have f0:=hb.free 0;have ho0:=ho;obtain ⟨hown,hr,hcn,hbb,g⟩:=ho;have n3:=g.size;have n1:L'.length + 1≤maxLen:=by unfold maxLen;omega
  have n2:(L'.length + 1) * 1≤140737488355328:=by omega
  have hav:=and127 m (by omega);have hq1:m % 128 < 128:=Nat.mod_lt _ (by decide);have hov:=or128 hq1;have hne:∀ q,(Value.slice a L'.length c).ownBlock = some q→q < wr.heap.size∧q ≠ wb:=fun q hq => by
   cases a with
   | none => cases hq
   | some ad => cases hq;exact ⟨ho0.lt rfl,(hax ad rfl).1⟩
  replace ho0:=Lib.hid ho0;replace hkp:=Lib.hid hkp;replace hr:=Lib.hid hr;replace hbb:=Lib.hid hbb;replace hax:=Lib.hid hax;replace hb:=Lib.hid hb;replace hne:=Lib.hid hne;by_cases hs:m < 128
  ·have hs2:(m:Int)≤127:=by omega
   rw [numB_small hs] at heq;have hrc:=recs_alloc byteC_len wr [UInt8.ofNat m] 5 #[.int .u8 (m:Int)] (byte_cell m (by omega));have hm8:(m:Int) % 256 = m:=by omega
   obtain ⟨L2,hL2⟩:∃ L2,L2 = L' ++ [UInt8.ofNat m]:=⟨_,rfl⟩
   rw [← hL2] at heq;replace heq:=Lib.hid heq;replace hrc:=Lib.hid hrc;replace hL2:=Lib.hid hL2;go_wp2_with (at_builtin;go_loud (refine wpList_append_one (k:=1) (enc:=byteC) rfl _ _ 91 rfl W.heap.size 5 i5 _ 1 Tryz.underlying91 hi hz0 hz1 hz2 rfl (by decide) byteC_len byteC_one (.slice a L'.length c) L' rfl (owns_gr hown ((Gr.refl wr).alloc _)) wr.heap.size 1 (UInt8.ofNat (m)) rfl hrc.out n1 n2 (le_alloc n3 _) ?_;intro v1 w1 hown1 hgr1 hat1;have hb1:=(hb.out.alloc (.cells #[.int .u8 (m:Int)] 5)).grown hgr1 (fun e => (hne.out _ e.symm).2 rfl);have hg1:Gr W w1:=(g.alloc _).grown hgr1 (own_block hown);rw [← hL2.out] at hown1;obtain ⟨a1,c2,hv1,ho1⟩:=Own.of hown1 hg1;subst hv1;have c1:=hb1.cell (i:=0) (v:=.slice a L'.length c) rfl;have f1:=hb1.free 0;have z1:=hb1.lt;have hput:=WrK.put (w0:=w0) (wr:=wr) (N:=(wr.alloc (.cells #[.int .u8 (m:Int)] 5)).heap.size) hwb hwB hBw hb1 (fun v => rfl) ho1 hat1 (by simp;omega) hax.out hgr1 ((Gr.refl wr).alloc _) hkp.out h0r;replace hput:=Lib.hid hput;replace ho1:=Lib.hid ho1;replace hb1:=Lib.hid hb1;clear hown1 hat1));go_end0;exact ⟨rfl,by rw [← heq.out];exact hput.out⟩
  ·have hs2:¬ (m:Int)≤127:=by omega
   rw [numB_great hs] at heq;have hrc:=recs_alloc byteC_len wr [UInt8.ofNat (m % 128 + 128)] 5 #[.int .u8 ((m % 128 + 128:Nat):Int)] (byte_cell (m % 128 + 128) (by omega));rw [show ((m % 128 + 128:Nat):Int) = (m:Int) % 128 + 128 by omega] at hrc hov;rw [show ((m % 128:Nat):Int) = (m:Int) % 128 by omega] at hov;obtain ⟨L2,hL2⟩:∃ L2,L2 = L' ++ [UInt8.ofNat (m % 128 + 128)]:=⟨_,rfl⟩
   have heq2:L2 ++ numB (m / 128) = L ++ numB n:=by rw [hL2,← heq,List.append_assoc];rfl
   have hdm:(m:Int).fdiv (2 ^ min (Int.toNat 7) IntKind.i64.bits) = ((m / 128:Nat):Int):=by
    rw [Int.fdiv_eq_ediv_of_nonneg _ (by decide)];rfl
   replace heq:=Lib.hid heq;replace heq2:=Lib.hid heq2;replace hrc:=Lib.hid hrc;replace hL2:=Lib.hid hL2;go_wp2_with (at_builtin;go_loud (refine wpList_append_one (k:=1) (enc:=byteC) rfl _ _ 91 rfl W.heap.size 5 i5 _ 1 Tryz.underlying91 hi hz0 hz1 hz2 rfl (by decide) byteC_len byteC_one (.slice a L'.length c) L' rfl (owns_gr hown ((Gr.refl wr).alloc _)) wr.heap.size 1 (UInt8.ofNat (m % 128 + 128)) rfl hrc.out n1 n2 (le_alloc n3 _) ?_;intro v1 w1 hown1 hgr1 hat1;have hb1:=(hb.out.alloc (.cells #[.int .u8 ((m:Int) % 128 + 128)] 5)).grown hgr1 (fun e => (hne.out _ e.symm).2 rfl);have hg1:Gr W w1:=(g.alloc _).grown hgr1 (own_block hown);rw [← hL2.out] at hown1;obtain ⟨a1,c2,hv1,ho1⟩:=Own.of hown1 hg1;subst hv1;have c1:=hb1.cell (i:=0) (v:=.slice a L'.length c) rfl;have f1:=hb1.free 0;have z1:=hb1.lt;have hput:=WrK.put (w0:=w0) (wr:=wr) (N:=(wr.alloc (.cells #[.int .u8 ((m:Int) % 128 + 128)] 5)).heap.size) hwb hwB hBw hb1 (fun v => rfl) ho1 hat1 (by simp;omega) hax.out hgr1 ((Gr.refl wr).alloc _) hkp.out h0r;replace hput:=Lib.hid hput;replace ho1:=Lib.hid ho1;replace hb1:=Lib.hid hb1;clear hown1 hat1));go_roundw;case rel => exact ⟨m / 128,L2,by go_num,by omega,heq2.out,hput.out⟩
   case measure => simp [intOf];omega
theorem num_any (W w:World) (wb B:Nat) (L:List UInt8) (n:Nat) (h:WrAt W w wb B L) (hm:L.length≤500000) (hn:n < 9223372036854775808) :
 Calls Tryz.prog 70 #[.pointer (some ⟨wb,0,none⟩),.int .i64 n] w fun e w' => e = .returned (.tuple #[])∧WrK W w w' wb B (L ++ numB n):=num_anyK W w w wb B L n h.k hm hn
theorem BytesAt.same {w w':World} {a:Option Addr} {l:List UInt8} (h:BytesAt w a l) (hs:w.heap.size≤w'.heap.size) (hb:∀ x,a = some x→l ≠ []→w'.heap[x.block]? = w.heap[x.block]?):BytesAt w' a l:=by
 intro i s hi;obtain ⟨b,off,ha,hlt,hc⟩:=h i s hi;have h1:w'.heap[b]? = w.heap[b]?:=hb _ ha (fun e => by rw [e] at hi;cases hi);exact ⟨b,off,ha,by omega,fun j u hu => by rw [World.cell?_of_block h1];exact hc j u hu⟩
set_option maxRecDepth 100000 in
set_option maxHeartbeats 1600000 in
theorem wbytes_any (W w:World) (wb B:Nat) (L:List UInt8) (a:Option Addr) (c:Nat) (l:List UInt8) (h:WrAt W w wb B L) (hm:L.length≤400000) (hs:BytesAt w a l) (hc:a = none→c = 0) (hx:∀ x,a = some x→x.block < W.heap.size ∨ (B≤x.block∧x.block < w.heap.size)) (hl:l.length≤100000) :
 Calls Tryz.prog 71 #[.pointer (some ⟨wb,0,none⟩),.slice a l.length c] w fun e w' => e = .returned (.tuple #[])∧WrAt W w' wb w'.heap.size (L ++ numB l.length ++ l):=by
 obtain ⟨i5,hi,hz0,hz1,hz2⟩:=info_parts Tryz.infoU8;have hnum:=num_any W w wb B L l.length h (by omega) (by omega);have hlen:=numB_10 (n:=l.length) (by omega);have hWw:=h.world;obtain ⟨L1,hL1⟩:∃ L1,L1 = L ++ numB l.length:=⟨_,rfl⟩
 have hll:L1.length≤400010:=by rw [hL1,List.length_append];omega
 rw [← hL1] at hnum ⊢;obtain ⟨L2,hL2⟩:∃ L2,L2 = L1 ++ l:=⟨_,rfl⟩
 rw [← hL2];have n1:L1.length + l.length≤maxLen:=by unfold maxLen;omega
 have n2:(L1.length + l.length) * 1≤140737488355328:=by omega
 replace hnum:=Lib.hid hnum;replace h:=Lib.hid h;replace hs:=Lib.hid hs;replace hx:=Lib.hid hx;replace hL1:=Lib.hid hL1;replace hL2:=Lib.hid hL2;go_enter Tryz.func71,Tryz.ntmps71;go_wp2_with fail;refine hnum.out.mono ?_;rintro e w1 ⟨rfl,hW⟩;obtain ⟨a1,c1,hb,ho,hwb,hwB,hax,hkp,h0r,hBw⟩:=hW;have c0:=hb.cell (i:=0) (v:=.slice a1 L1.length c1) rfl;have f0:=hb.free 0;have zwb:=hb.lt;have ho0:=ho;obtain ⟨hown,hr,hcn,hbb,g⟩:=ho;have n3:=g.size;have hs1:BytesAt w1 a l:=hs.out.same h0r (fun x hxx _ => by
  rcases hx.out x hxx with h | h
  ·rw [g.block _ h,hWw.block _ h]
  ·exact hkp _ h.1 h.2)
 have hne:∀ q,(Value.slice a1 L1.length c1).ownBlock = some q→q < w1.heap.size∧q ≠ wb:=fun q hq => by
  cases a1 with
  | none => cases hq
  | some ad => cases hq;exact ⟨ho0.lt rfl,(hax ad rfl).1⟩
 replace hr:=Lib.hid hr;replace hbb:=Lib.hid hbb;replace hax:=Lib.hid hax;replace hb:=Lib.hid hb;replace hne:=Lib.hid hne;replace ho0:=Lib.hid ho0;replace hkp:=Lib.hid hkp;replace hs1:=Lib.hid hs1;go_wp2_with (at_builtin;go_loud (refine wpList_append_at (k:=1) (enc:=byteC) rfl _ _ 91 rfl W.heap.size 5 i5 _ 1 Tryz.underlying91 hi hz0 hz1 hz2 rfl (by decide) byteC_len byteC_one (.slice a1 L1.length c1) L1 rfl hown a c l rfl hs1.out hc n1 n2 n3 ?_;intro v1 w2 hown1 hgr1 hat1;have hb1:=hb.out.grown hgr1 (fun e => (hne.out _ e.symm).2 rfl);have hg1:Gr W w2:=g.grown hgr1 (own_block hown);rw [← hL2.out] at hown1;obtain ⟨a2,c2,hv1,ho1⟩:=Own.of hown1 hg1;subst hv1;have c3:=hb1.cell (i:=0) (v:=.slice a1 L1.length c1) rfl;have f1:=hb1.free 0;have z1:=hb1.lt;have hput:=WrK.put (wr:=w1) (N:=w1.heap.size) hwb hwB hBw hb1 (fun v => rfl) ho1 hat1 h0r hax.out hgr1 (Gr.refl w1) hkp.out h0r;replace hput:=Lib.hid hput;replace ho1:=Lib.hid ho1;replace hb1:=Lib.hid hb1;clear hown1 hat1));go_end0;exact ⟨rfl,hput.out.at⟩
theorem Own.older {W W1 w:World} {a:Option Addr} {c:Nat} {l:List UInt8} (h:Own W1 w a c l) (g:Gr W W1):Own W w a c l:=by
 obtain ⟨h1,h2,h3,h4,h5⟩:=h;refine ⟨⟨h1.1,?_⟩,h2,h3,fun x hx => Nat.le_trans g.size (h4 x hx),g.trans h5⟩;rcases h1.2 with hn | ⟨b,cap,cur,e1,e2,e3⟩
 ·exact .inl hn
 ·exact .inr ⟨b,cap,cur,e1,Nat.le_trans g.size e2,e3⟩
set_option maxRecDepth 100000 in
set_option maxHeartbeats 1600000 in
theorem cloneB_any (w:World) (a:Option Addr) (c:Nat) (l:List UInt8) (h:BytesAt w a l) (hc:a = none→c = 0) (hm:l.length≤1000000) :
 Calls Tryz.prog 89 #[.slice a l.length c] w fun e w' => ∃ a' c',e = .returned (.slice a' l.length c')∧Own w w' a' c' l:=by
 obtain ⟨i5,hi,hz0,hz1,hz2⟩:=info_parts Tryz.infoU8;have hmm:l.length≤maxLen:=by unfold maxLen;omega
 have n2:l.length * 1≤140737488355328:=by omega
 have hnil:=fun (w:World) a n c => Lib.run_eql_slice_nil (P:=Tryz.prog) w 91 5 a n c 0 0 Tryz.underlying91
 cases a with
 | none =>
  obtain rfl:=hc rfl;obtain rfl:l = []:=by
   cases l with
   | nil => rfl
   | cons y r => obtain ⟨b,off,hh,_⟩:=h 0 y rfl;cases hh
  go_enter Tryz.func89,Tryz.ntmps89;go_wp2_with fail;go_ret;exact ⟨none,0,rfl,Own.nil w w (Gr.refl w)⟩
 | some ad =>
  replace h:=Lib.hid h;go_enter Tryz.func89,Tryz.ntmps89;go_wp2_with (at_builtin;go_loud (refine wpList_copyN (k:=1) (enc:=byteC) rfl _ _ 91 rfl 5 i5 _ 1 Tryz.underlying91 hi hz0 hz1 hz2 rfl (by decide) byteC_len byteC_one w.heap.size rfl rfl (some ad) c l rfl h.out hc hmm n2 ?_;intro v1 w1 hown g1));obtain ⟨a',c',rfl,ho⟩:=Own.of hown g1;go_wp2_with fail;go_ret;exact ⟨a',c',rfl,ho⟩
set_option maxRecDepth 100000 in
set_option maxHeartbeats 1600000 in
theorem done_any (W w:World) (wb B:Nat) (L:List UInt8) (h:WrAt W w wb B L) (hm:L.length≤1000000) :
 Calls Tryz.prog 72 #[.pointer (some ⟨wb,0,none⟩)] w fun e w' => ∃ a c,e = .returned (.tuple #[.slice a L.length c,.nilIface])∧Own w w' a c L:=by
 obtain ⟨a,c,hb,ho,hwb,hwB,hax,_⟩:=h;have c0:=hb.cell (i:=0) (v:=.slice a L.length c) rfl;have c1:=hb.cell (i:=1) (v:=.bool false) rfl;have hcl:=cloneB_any w a c L ho.2.1 ho.2.2.1 hm;replace hcl:=Lib.hid hcl;replace ho:=Lib.hid ho;replace hb:=Lib.hid hb;go_enter Tryz.func72,Tryz.ntmps72;go_wp2_with fail;refine hcl.out.mono ?_;rintro e w1 ⟨a1,c1,rfl,h1⟩;replace h1:=Lib.hid h1;go_wp2_with fail;go_ret2;exact ⟨a1,c1,rfl,h1.out⟩
abbrev intC (d:Int):List Value:=[.int .i64 d]
theorem intC_len (d:Int):(intC d).length = 1:=rfl
theorem int_get {w:World} {a:Option Addr} {l:List Int} (h:RecsAt 1 intC w a l) {i:Nat} {d:Int} (hd:l[i]? = some d):∃ b off,a = some ⟨b,off,none⟩∧b < w.heap.size∧w.cell? ⟨b,off + i,none⟩ = some (.int .i64 d):=by
 obtain ⟨b,off,ha,hb,hc⟩:=h i d hd;exact ⟨b,off,ha,hb,by simpa using hc 0 _ rfl⟩
def okN (n:Int):Bool:=decide (0≤n∧n≤1099511627776)
theorem okN_iff {n:Int}:okN n = true ↔ 0≤n∧n≤1099511627776:=decide_eq_true_iff
set_option maxHeartbeats 800000 in
theorem fit_any (a:Option Addr) (l:List Int) (c:Nat) (w:World) (h:RecsAt 1 intC w a l) (hm:l.length≤maxLen) :
 Calls Tryz.prog 148 #[.slice a l.length c] w fun e w' => e = .returned (.bool (l.all okN))∧w = w':=by
 unfold maxLen at hm;go_enter Tryz.func148,Tryz.ntmps148;go_wp2_with fail;go_loopw [7] (fun iv wr => ∃ k:Nat,k≤l.length∧iv = .int .i64 k∧(l.take k).all okN = true∧wr = w) (fun iv _ => l.length - (intOf iv).toNat);case atStart => exact ⟨0,Nat.zero_le _,rfl,rfl,rfl⟩
 case round =>
  obtain ⟨k,hk,rfl,hall,rfl⟩:=hrel;replace hall:=Lib.hid hall;by_cases hlt:k < l.length
  ·obtain ⟨d,hd⟩:=get_some l k hlt;obtain ⟨b,off,rfl,hb,c0⟩:=int_get h hd;by_cases hok:0≤d∧d≤1099511627776
   ·have hts:=take_snoc hd;have hall2:(l.take (k + 1)).all okN = true:=by rw [hts,List.all_append,hall.out];simp [okN_iff.2 hok]
    obtain ⟨o1,o2⟩:=hok;clear hts;replace hall2:=Lib.hid hall2;go_wp2_with fail;go_roundw;case rel => exact ⟨k + 1,by omega,by go_num,hall2.out,trivial⟩
    case measure => simp [intOf];omega
   ·have hno:l.all okN = false:=by
     cases hh:l.all okN
     ·rfl
     ·have:=List.all_eq_true.1 hh d (get_mem hd);exact absurd (okN_iff.1 this) hok
    replace hno:=Lib.hid hno;by_cases h0:d < 0
    ·go_wp2_with fail;go_ret;exact ⟨by rw [hno.out];rfl,rfl⟩
    ·have h1:1099511627776 < d:=by omega
     go_wp2_with fail;go_ret;exact ⟨by rw [hno.out];rfl,rfl⟩
  ·have:l.take k = l:=List.take_of_length_le (by omega);have hall2:=hall.out;rw [this] at hall2;replace hall2:=Lib.hid hall2;go_wp2_with fail;go_ret;exact ⟨by rw [hall2.out];rfl,rfl⟩
set_option maxHeartbeats 800000 in
theorem keyOf_any (x:EntM) (w:World) :
 Calls Tryz.prog 113 #[.agg #[.int .i64 x.e.cl,.int .i64 x.e.nu,.int .i64 x.e.kd,.int .i64 x.e.id,.int .i64 x.e.srv.k,.int .i64 x.e.srv.q,.int .i64 x.e.srv.t,.int .i64 x.e.po,.slice x.a x.e.tasks.length x.c,.int .i64 x.e.at_]] w fun e w' => e = .returned (.agg #[.int .i64 x.e.cl,.int .i64 x.e.nu])∧Gr w w':=by
 go_enter Tryz.func113,Tryz.ntmps113;go_wp2;refine bodyPost_ret (v:=.agg #[.int .i64 x.e.cl,.int .i64 x.e.nu]) (by simp [results,Tryz.results113,go_sem]) rfl ⟨rfl,?_⟩;repeat (first | exact Gr.refl _ | apply Gr.alloc | apply Gr.drew | apply Gr.drewN | (refine Gr.setCell ?_ (by simp) _) | (refine Gr.trans ?_ (by assumption)))
variable {K0:Nat→Prop}
structure Rnd where
 an:List Bool
 x:EntM
 reads:Bool
 bal:Bal
 st:Int
 nw:Bal
 la:Option Addr
 lc:Nat
 led:List EntM
 begun:Int
variable {K0:Nat→Prop}
variable {K0:Nat→Prop}
variable {K0:Nat→Prop}
variable {K0:Nat→Prop}
variable {K0:Nat→Prop}
variable {K0:Nat→Prop}
section
variable {G:List Nat} {E:Nat→Addr} {W0:World} {R:Rnd} {w:World} {rb ab:Nat}
end
section
variable {G:List Nat} {E:Nat→Addr} {W0:World} {R:Rnd} {w:World} {rb ab:Nat}
end
variable {K0:Nat→Prop}
theorem tsk_cells {w:World} {a:Option Addr} {l:List Tsk} (h:RecsAt 4 Tsk.cells w a l) {i:Nat} {d:Tsk} (hd:l[i]? = some d):∃ b off,a = some ⟨b,off,none⟩∧b < w.heap.size∧w.cell? ⟨b,off + i * 4,none⟩ = some (.int .i64 d.c)∧w.cell? ⟨b,off + i * 4 + 1,none⟩ = some (.int .i64 d.p)∧w.cell? ⟨b,off + i * 4 + 2,none⟩ = some (.int .i64 d.d)∧w.cell? ⟨b,off + i * 4 + 3,none⟩ = some (.int .i64 d.s):=by
 obtain ⟨b,off,ha,hb,hc⟩:=h i d hd;exact ⟨b,off,ha,hb,hc 0 _ rfl,hc 1 _ rfl,hc 2 _ rfl,hc 3 _ rfl⟩
set_option maxRecDepth 100000 in
set_option maxHeartbeats 3200000 in
theorem sameOrder_eq (e:Ent) (a1 a2:Option Addr) (c1 c2:Nat) (w:World) (h1:(⟨e,a1,c1⟩:EntM).ok Any w) (h2:(⟨e,a2,c2⟩:EntM).ok Any w) :
 Calls Tryz.prog 88 #[.agg #[.int .i64 e.kd,.int .i64 e.id,.int .i64 e.srv.k,.int .i64 e.srv.q,.int .i64 e.srv.t,.int .i64 e.po,.slice a1 e.tasks.length c1,.int .i64 e.at_],.agg #[.int .i64 e.kd,.int .i64 e.id,.int .i64 e.srv.k,.int .i64 e.srv.q,.int .i64 e.srv.t,.int .i64 e.po,.slice a2 e.tasks.length c2,.int .i64 e.at_]] w fun x w' => x = .returned (.bool true)∧Gr w w':=by
 have hcap:=ent_cap h1;dsimp only at hcap;go_enter Tryz.func88,Tryz.ntmps88;go_wp2_with fail;have gW:=((Gr.refl w).alloc (.cells #[.int .i64 e.kd,.int .i64 e.id,.int .i64 e.srv.k,.int .i64 e.srv.q,.int .i64 e.srv.t,.int .i64 e.po,.slice a1 e.tasks.length c1,.int .i64 e.at_] 71)).alloc (.cells #[.int .i64 e.kd,.int .i64 e.id,.int .i64 e.srv.k,.int .i64 e.srv.q,.int .i64 e.srv.t,.int .i64 e.po,.slice a2 e.tasks.length c2,.int .i64 e.at_] 71);go_loopw [51] (fun iv wr => ∃ k:Nat,k≤e.tasks.length∧iv = .int .i64 k∧Gr ((w.alloc (.cells #[.int .i64 e.kd,.int .i64 e.id,.int .i64 e.srv.k,.int .i64 e.srv.q,.int .i64 e.srv.t,.int .i64 e.po,.slice a1 e.tasks.length c1,.int .i64 e.at_] 71)).alloc (.cells #[.int .i64 e.kd,.int .i64 e.id,.int .i64 e.srv.k,.int .i64 e.srv.q,.int .i64 e.srv.t,.int .i64 e.po,.slice a2 e.tasks.length c2,.int .i64 e.at_] 71)) wr) (fun iv _ => e.tasks.length - (intOf iv).toNat);case atStart => exact ⟨0,Nat.zero_le _,rfl,Gr.refl _⟩
 case round =>
  obtain ⟨k,hk,rfl,hg⟩:=hrel;obtain ⟨cg,fg,sg⟩:=hg.cells;simp only [World.size_alloc] at cg fg sg;have k1:=fun o => cg w.heap.size o (by omega)
  have k2:=fun o => cg (w.heap.size + 1) o (by omega)
  clear cg fg;by_cases hlt:k < e.tasks.length
  ·obtain ⟨d,hd⟩:=get_some e.tasks k hlt;obtain ⟨b,off,hb0,hb,d0,d1,d2,d3⟩:=tsk_cells ((h1.gr gW).gr hg).1.1 hd;obtain ⟨b',off',hb0',hb',d0',d1',d2',d3'⟩:=tsk_cells ((h2.gr gW).gr hg).1.1 hd;dsimp only at hb0 hb0';subst hb0 hb0';replace hd:=Lib.hid hd;go_wp2_with fail;go_quiet (fail);go_wp2_with fail;go_roundw;case rel => exact ⟨k + 1,by omega,by go_num,hg.drewN _⟩
   case measure => simp [intOf];omega
  ·go_wp2_with fail;go_ret;exact ⟨rfl,gW.trans hg⟩
set_option maxRecDepth 100000 in
set_option maxHeartbeats 3200000 in
theorem same_eq (e:Ent) (a1 a2:Option Addr) (c1 c2:Nat) (w:World) (h1:(⟨e,a1,c1⟩:EntM).ok Any w) (h2:(⟨e,a2,c2⟩:EntM).ok Any w) :
 Calls Tryz.prog 42 #[.agg (List.toArray (e.cells a1 c1)),.agg (List.toArray (e.cells a2 c2))] w fun x w' => x = .returned (.bool true)∧Gr w w':=by
 have gW:=((Gr.refl w).alloc (.cells #[.int .i64 e.cl,.int .i64 e.nu,.int .i64 e.kd,.int .i64 e.id,.int .i64 e.srv.k,.int .i64 e.srv.q,.int .i64 e.srv.t,.int .i64 e.po,.slice a1 e.tasks.length c1,.int .i64 e.at_] 73)).alloc (.cells #[.int .i64 e.cl,.int .i64 e.nu,.int .i64 e.kd,.int .i64 e.id,.int .i64 e.srv.k,.int .i64 e.srv.q,.int .i64 e.srv.t,.int .i64 e.po,.slice a2 e.tasks.length c2,.int .i64 e.at_] 73);have hso:=sameOrder_eq e a1 a2 c1 c2 _ (h1.gr gW) (h2.gr gW);replace hso:=Lib.hid hso;clear h1 h2;go_enter Tryz.func42,Tryz.ntmps42;go_wp2_with fail;refine hso.out.mono ?_;rintro x w1 ⟨rfl,g1⟩;go_wp2_with fail;go_ret;exact ⟨rfl,gW.trans g1⟩
set_option maxRecDepth 100000 in
set_option maxHeartbeats 3200000 in
theorem sameLedger_eq (a1 a2:Option Addr) (c1 c2:Nat) (L1 L2:List EntM) (w:World) (h1:LedM Any w a1 L1) (h2:LedM Any w a2 L2) (he:L1.map (·.e) = L2.map (·.e)) (hm:L1.length≤maxLen) :
 Calls Tryz.prog 19 #[.slice a1 L1.length c1,.slice a2 L2.length c2] w fun x w' => x = .returned (.bool true)∧Gr w w':=by
 have hlen:L2.length = L1.length:=by simpa using (congrArg List.length he).symm
 have hsm:=fun e a1 a2 c1 c2 (w':World) h1 h2 => same_eq e a1 a2 c1 c2 w' h1 h2
 replace hsm:=Lib.hid hsm;rw [hlen];replace hlen:=Lib.hid hlen;replace he:=Lib.hid he;unfold maxLen at hm;go_enter Tryz.func19,Tryz.ntmps19;go_wp2_with fail;go_loopw [13] (fun iv wr => ∃ k:Nat,k≤L1.length∧iv = .int .i64 k∧Gr w wr) (fun iv _ => L1.length - (intOf iv).toNat);case atStart => exact ⟨0,Nat.zero_le _,rfl,Gr.refl _⟩
 case round =>
  obtain ⟨k,hk,rfl,hg⟩:=hrel;by_cases hlt:k < L1.length
  ·obtain ⟨x,hx⟩:=get_some L1 k hlt;obtain ⟨y,hy⟩:=get_some L2 k (by rw [hlen.out];exact hlt);have hxy:y.e = x.e:=by
    have e1:(L1.map (·.e))[k]? = some x.e:=by simp [hx]
    have e2:(L2.map (·.e))[k]? = some y.e:=by simp [hy]
    rw [he.out,e2] at e1;exact Option.some.inj e1
   obtain ⟨y,a4,c4⟩:=y;dsimp only at hxy;subst hxy;obtain ⟨b,off,rfl,hb,_,d0,d1,d2,d3,d4,d5,d6,d7,d8,d9⟩:=(h1.gr hg).get hx;obtain ⟨b',off',rfl,hb',_,e0,e1,e2,e3,e4,e5,e6,e7,e8,e9⟩:=(h2.gr hg).get hy;have o1:=(h1.gr hg).2 x (get_mem hx);have o2:=(h2.gr hg).2 _ (get_mem hy);dsimp only at e0 e1 e2 e3 e4 e5 e6 e7 e8 e9;have q0:=GrW.cell d0;have q1:=GrW.cell d1;have q2:=GrW.cell d2;have q3:=GrW.cell d3;have q4:=GrW.cell d4;have q5:=GrW.cell d5;have q6:=GrW.cell d6;have q7:=GrW.cell d7;have q8:=GrW.cell d8;have q9:=GrW.cell d9;have p0:=GrW.cell e0;have p1:=GrW.cell e1;have p2:=GrW.cell e2;have p3:=GrW.cell e3;have p4:=GrW.cell e4;have p5:=GrW.cell e5;have p6:=GrW.cell e6;have p7:=GrW.cell e7;have p8:=GrW.cell e8;have p9:=GrW.cell e9;replace hx:=Lib.hid hx;replace hy:=Lib.hid hy;go_wp2_with fail;refine wp_region_grows (by kernel_rfl) (by kernel_rfl) ?_;repeat (any_goals (first | go_big_quiet_step (first | (exact Calls.grows (hsm.out x.e x.a a4 x.c c4 _ (o1.gr (by exact GrW.gr _)) (o2.gr (by exact GrW.gr _))))) | quiet_step (first | (exact Calls.grows (hsm.out x.e x.a a4 x.c c4 _ (o1.gr (by exact GrW.gr _)) (o2.gr (by exact GrW.gr _)))))))
   refine wpQuiet_nil ?_;intro wp hwq;have gp:=GrW.of hwq;clear hwq;obtain ⟨cp,fp,sp⟩:=gp.cells;try simp only [size_drewN] at cp fp sp
   try simp only [World.size_alloc] at cp fp sp
   try simp only [World.size_drew] at cp fp sp
   try simp only [World.size_setCell] at cp fp sp
   clear q0 q1 q2 q3 q4 q5 q6 q7 q8 q9 p0 p1 p2 p3 p4 p5 p6 p7 p8 p9;go_wp2_with fail;go_roundw;case rel => exact ⟨k + 1,by omega,by go_num,hg.trans gp⟩
   case measure => simp [intOf];omega
  ·go_wp2_with fail;go_ret;exact ⟨rfl,hg⟩
def tskF (t:Tsk):Bool:=okN t.c && okN t.p && okN t.d && okN t.s
def ordF (e:Ent):Bool :=
 okN e.at_ && okN e.id && (
  if e.kd = 1 ∨ e.kd = 2 then decide (e.po = 0) && decide (e.tasks = []) && (okN e.srv.k && okN e.srv.q && okN e.srv.t)
  else if e.kd = 3 then decide (e.po = 0) && decide (e.tasks = []) && decide (e.srv.k = 0∧e.srv.q = 0∧e.srv.t = 0)
  else if e.kd = 4 then decide (e.srv.k = 0∧e.srv.q = 0∧e.srv.t = 0) && okN e.po && decide (e.tasks.length≤8) && e.tasks.all tskF
  else false)
def entF (e:Ent):Bool:=decide (0≤e.cl∧e.cl < 16∧1≤e.nu∧e.nu≤1099511627776) && ordF e
set_option maxHeartbeats 800000 in
theorem taskBad_any (t:Tsk) (w:World) :
 Calls Tryz.prog 150 #[.agg #[.int .i64 t.c,.int .i64 t.p,.int .i64 t.d,.int .i64 t.s]] w fun e w' => e = .returned (.bool (!tskF t))∧Gr w w':=by
 have hf:=fun (b:Nat) (w:World) h => fit_any (some ⟨b,0,none⟩) [t.c,t.p,t.d,t.s] 4 w h (by unfold maxLen;simp)
 have hall:[t.c,t.p,t.d,t.s].all okN = tskF t:=by simp [tskF,Bool.and_assoc]
 rw [hall] at hf;obtain ⟨v,hv⟩:∃ v,v = tskF t:=⟨_,rfl⟩
 rw [← hv] at hf ⊢;replace hv:=Lib.hid hv;replace hf:=Lib.hid hf;clear hall;go_enter Tryz.func150,Tryz.ntmps150;go_wp2_with fail;refine (hf.out (w.heap.size + 1) _ ?_).mono ?_
 ·have:=recs_alloc intC_len (w.alloc (.cells #[.int .i64 t.c,.int .i64 t.p,.int .i64 t.d,.int .i64 t.s] 136)) [t.c,t.p,t.d,t.s] 3 #[.int .i64 t.c,.int .i64 t.p,.int .i64 t.d,.int .i64 t.s] rfl;simpa using this
 rintro e w1 ⟨rfl,rfl⟩;go_wp2_with fail;go_ret;exact ⟨rfl,((Gr.refl _).alloc _).alloc _⟩
set_option maxRecDepth 100000 in
set_option maxHeartbeats 1600000 in
theorem idxTask_any (a:Option Addr) (c:Nat) (L:List Tsk) (w:World) (h:RecsIn Any 4 Tsk.cells w a L) (hm:L.length≤maxLen) :
 Calls Tryz.prog 173 #[.slice a L.length c,.func (.func 150) #[] #[]] w fun e w' => (∃ n,e = .returned (.int .i64 n)∧(L.all tskF = decide (n < 0)))∧Gr w w':=by
 unfold maxLen at hm;go_enter Tryz.func173,Tryz.ntmps173;go_wp2_with fail;go_loopw [8] (fun iv wr => ∃ k:Nat,k≤L.length∧iv = .int .i64 k∧(L.take k).all tskF = true∧Gr w wr) (fun iv _ => L.length - (intOf iv).toNat);case atStart => exact ⟨0,Nat.zero_le _,rfl,rfl,Gr.refl _⟩
 case round =>
  obtain ⟨k,hk,rfl,hbf,hg⟩:=hrel;replace hbf:=Lib.hid hbf;by_cases hlt:k < L.length
  ·obtain ⟨x,hx⟩:=get_some L k hlt;obtain ⟨b,off,rfl,hbb,c0,c1,c2,c3⟩:=tsk_cells (h.grx (T:=[]) (hg.x []) (fun _ h => by cases h)).1 hx;have hp:=taskBad_any x wr;cases hkey:tskF x
   ·rw [hkey] at hp;have hno:L.all tskF = false:=by
     cases hh:L.all tskF
     ·rfl
     ·have:=List.all_eq_true.1 hh x (get_mem hx);rw [hkey] at this;cases this
    replace hno:=Lib.hid hno;replace hp:=Lib.hid hp;replace hkey:=Lib.hid hkey;replace hx:=Lib.hid hx;go_wp2_with fail;refine (hp.out).mono ?_;rintro e wp ⟨rfl,gp⟩;obtain ⟨cp,fp,sp⟩:=gp.cells;try simp only [size_drewN] at cp fp sp
    try simp only [World.size_alloc] at cp fp sp
    try simp only [World.size_drew] at cp fp sp
    try simp only [World.size_setCell] at cp fp sp
    go_wp2_with fail;go_ret;exact ⟨⟨k,rfl,by rw [hno.out,decide_eq_false (by omega)]⟩,hg.trans gp⟩
   ·rw [hkey] at hp;have hts:=take_snoc hx;have hbf2:(L.take (k + 1)).all tskF = true:=by rw [hts,List.all_append,hbf.out];simp [hkey]
    replace hp:=Lib.hid hp;replace hbf2:=Lib.hid hbf2;replace hkey:=Lib.hid hkey;clear hts;replace hx:=Lib.hid hx;go_wp2_with fail;refine (hp.out).mono ?_;rintro e wp ⟨rfl,gp⟩;obtain ⟨cp,fp,sp⟩:=gp.cells;try simp only [size_drewN] at cp fp sp
    try simp only [World.size_alloc] at cp fp sp
    try simp only [World.size_drew] at cp fp sp
    try simp only [World.size_setCell] at cp fp sp
    go_wp2_with fail;go_roundw;case rel => exact ⟨k + 1,by omega,by go_num,hbf2.out,hg.trans gp⟩
    case measure => simp [intOf];omega
  ·have hall:L.take k = L:=List.take_of_length_le (by omega);have hbf2:=hbf.out;rw [hall] at hbf2;replace hbf2:=Lib.hid hbf2;go_wp2_with fail;go_ret;exact ⟨⟨-1,rfl,by rw [hbf2.out];rfl⟩,hg⟩
set_option maxHeartbeats 800000 in
theorem badTask_any (a:Option Addr) (c:Nat) (L:List Tsk) (w:World) (h:RecsIn Any 4 Tsk.cells w a L) (hm:L.length≤maxLen) :
 Calls Tryz.prog 149 #[.slice a L.length c,.func (.func 150) #[] #[]] w fun e w' => e = .returned (.bool (!L.all tskF))∧Gr w w':=by
 have hp:=idxTask_any a c L w h hm;replace hp:=Lib.hid hp;obtain ⟨v,hv⟩:∃ v,v = L.all tskF:=⟨_,rfl⟩
 rw [← hv];replace hv:=Lib.hid hv;go_enter Tryz.func149,Tryz.ntmps149;go_wp2_with fail;refine hp.out.mono ?_;rintro e w1 ⟨⟨n,rfl,hn⟩,g1⟩;replace hn:=Lib.hid hn;go_wp2_with fail;go_ret;refine ⟨?_,g1⟩;rw [hv.out,hn.out];by_cases h0:n < 0 <;> simp [h0] <;> omega
theorem srv_eql (a b:Srv) (w:World):(binOp .eql 68 (.agg #[.int .i64 a.k,.int .i64 a.q,.int .i64 a.t]) (.agg #[.int .i64 b.k,.int .i64 b.q,.int .i64 b.t])).run Tryz.prog w = .ok (.bool (decide (a.k = b.k∧a.q = b.q∧a.t = b.t))) w:=by
 by_cases h1:a.k = b.k
 ·by_cases h2:a.q = b.q
  ·by_cases h3:a.t = b.t
   ·simp [go_sem,h1,h2,h3]
   ·simp [go_sem,h1,h2,h3]
  ·simp [go_sem,h1,h2]
 ·simp [go_sem,h1]
set_option maxRecDepth 100000 in
set_option maxHeartbeats 3200000 in
theorem checkOrder_any (e:Ent) (a:Option Addr) (c:Nat) (w:World) (h:(⟨e,a,c⟩:EntM).ok Any w) :
 Calls Tryz.prog 109 #[.agg #[.int .i64 e.kd,.int .i64 e.id,.int .i64 e.srv.k,.int .i64 e.srv.q,.int .i64 e.srv.t,.int .i64 e.po,.slice a e.tasks.length c,.int .i64 e.at_]] w fun x w' => x = .returned (.bool (ordF e))∧Gr w w':=by
 have hcap:=ent_cap h;dsimp only at hcap;have hf:=fun (b:Nat) (l:List Int) (w:World) h hm => fit_any (some ⟨b,0,none⟩) l l.length w h hm
 replace hf:=Lib.hid hf;obtain ⟨v,hv⟩:∃ v,v = ordF e:=⟨_,rfl⟩
 rw [← hv];cases hb:okN e.at_ && okN e.id with
 | false =>
  have hv0:v = false:=by rw [hv];unfold ordF;rw [hb];rfl
  subst hv0;have hall:[e.at_,e.id].all okN = false:=by simpa using hb
  have hfit:=fun b w h => hf.out b [e.at_,e.id] w h (by unfold maxLen;simp)
  rw [hall] at hfit;replace hfit:=Lib.hid hfit;replace hb:=Lib.hid hb;replace hv:=Lib.hid hv;clear hall h;go_enter Tryz.func109,Tryz.ntmps109;go_wp2_with fail;refine (hfit.out (w.heap.size + 1) _ ?_).mono ?_
  ·have:=recs_alloc intC_len (w.alloc (.cells #[.int .i64 e.kd,.int .i64 e.id,.int .i64 e.srv.k,.int .i64 e.srv.q,.int .i64 e.srv.t,.int .i64 e.po,.slice a e.tasks.length c,.int .i64 e.at_] 71)) [e.at_,e.id] 3 #[.int .i64 e.at_,.int .i64 e.id] rfl;simpa using this
  rintro x w1 ⟨rfl,rfl⟩;go_wp2_with fail;go_ret;exact ⟨rfl,((Gr.refl _).alloc _).alloc _⟩
 | true =>
  have hall:[e.at_,e.id].all okN = true:=by simpa using hb
  have hfit:=fun b w h => hf.out b [e.at_,e.id] w h (by unfold maxLen;simp)
  rw [hall] at hfit;have hs:=fun w => srv_eql e.srv ⟨0,0,0⟩ w
  obtain ⟨z,hz⟩:∃ z,z = decide (e.srv.k = 0∧e.srv.q = 0∧e.srv.t = 0):=⟨_,rfl⟩
  dsimp only at hs;rw [← hz] at hs;obtain ⟨k,hk⟩:∃ k,k = e.kd:=⟨_,rfl⟩
  rw [← hk];have hfin:v = (if (k == 1 || k == 2) then decide (e.po = 0) && decide (e.tasks = []) && (okN e.srv.k && okN e.srv.q && okN e.srv.t) else if k == 3 then decide (e.po = 0) && decide (e.tasks = []) && z else if k == 4 then z && okN e.po && decide (e.tasks.length≤8) && e.tasks.all tskF else false):=by
   rw [hv];unfold ordF;rw [hb,← hz,← hk,Bool.true_and];simp only [Bool.or_eq_true,beq_iff_eq]
  replace hfit:=Lib.hid hfit;replace hb:=Lib.hid hb;replace hv:=Lib.hid hv;replace hz:=Lib.hid hz;replace hfin:=Lib.hid hfin;replace hk:=Lib.hid hk;clear hall;replace h:=Lib.hid h;go_enter Tryz.func109,Tryz.ntmps109;go_wp2_with fail;refine (hfit.out (w.heap.size + 1) _ ?_).mono ?_
  ·have:=recs_alloc intC_len (w.alloc (.cells #[.int .i64 k,.int .i64 e.id,.int .i64 e.srv.k,.int .i64 e.srv.q,.int .i64 e.srv.t,.int .i64 e.po,.slice a e.tasks.length c,.int .i64 e.at_] 71)) [e.at_,e.id] 3 #[.int .i64 e.at_,.int .i64 e.id] rfl;simpa using this
  rintro x w1 ⟨rfl,rfl⟩;have hr3:=fun (W:World) => recs_alloc intC_len W [e.srv.k,e.srv.q,e.srv.t] 3 #[.int .i64 e.srv.k,.int .i64 e.srv.q,.int .i64 e.srv.t] rfl
  have hr1:=fun (W:World) (p:Int) => recs_alloc intC_len W [p] 3 #[.int .i64 p] rfl
  replace hr3:=Lib.hid hr3;replace hr1:=Lib.hid hr1;obtain ⟨f3,hf3⟩:∃ f3,f3 = [e.srv.k,e.srv.q,e.srv.t].all okN:=⟨_,rfl⟩
  have hfit3:∀ b w,RecsAt 1 intC w (some ⟨b,0,none⟩) [e.srv.k,e.srv.q,e.srv.t]→Calls Tryz.prog 148 #[.slice (some ⟨b,0,none⟩) 3 3] w fun e w' => e = .returned (.bool f3)∧w = w':=fun b w h => by
   have:=hf.out b [e.srv.k,e.srv.q,e.srv.t] w h (by unfold maxLen;simp);rw [← hf3] at this;exact this
  have hfit1:∀ b p w,RecsAt 1 intC w (some ⟨b,0,none⟩) [p]→Calls Tryz.prog 148 #[.slice (some ⟨b,0,none⟩) 1 1] w fun e w' => e = .returned (.bool (okN p))∧w = w':=fun b p w h => by
   have:=hf.out b [p] w h (by unfold maxLen;simp);rw [show [p].all okN = okN p by simp] at this;exact this
  replace hfit3:=Lib.hid hfit3;replace hfit1:=Lib.hid hfit1;replace hf3:=Lib.hid hf3;have hct:=fun (w:World) h => badTask_any a c e.tasks w h (by unfold maxLen;omega)
  replace hct:=Lib.hid hct;cases z
  all_goals go_wp2_with fail
  all_goals first
   | (
    go_ret;refine ⟨retb (Eq.symm ?_),((Gr.refl _).alloc _).alloc _⟩;clear hfit3 hfit1 hct hr3 hr1 hfit hf hb hv hs hz hk hcap hf3;go_light;rw [hfin.out];simp [*]
    done)
   | (
    with_reducible refine (hfit3.out (w.heap.size + 1 + 1) _ ?_).mono ?_
    ·have:=hr3.out ((w.alloc (.cells #[.int .i64 k,.int .i64 e.id,.int .i64 e.srv.k,.int .i64 e.srv.q,.int .i64 e.srv.t,.int .i64 0,.slice a 0 c,.int .i64 e.at_] 71)).alloc (.cells #[.int .i64 e.at_,.int .i64 e.id] 3));simpa using this
    rintro x w2 ⟨rfl,rfl⟩;go_wp2_with fail;go_ret;refine ⟨retb (Eq.symm ?_),(((Gr.refl _).alloc _).alloc _).alloc _⟩;clear hfit3 hfit1 hct hr3 hr1 hfit hf hb hv hs hz hk hcap;go_light;rw [hfin.out,hf3.out];simp [Bool.and_assoc, *]
    done)
   | skip
  ·with_reducible refine (hfit1.out (w.heap.size + 1 + 1) 0 _ ?_).mono ?_
   ·have:=hr1.out ((w.alloc (.cells #[.int .i64 k,.int .i64 e.id,.int .i64 e.srv.k,.int .i64 e.srv.q,.int .i64 e.srv.t,.int .i64 0,.slice a e.tasks.length c,.int .i64 e.at_] 71)).alloc (.cells #[.int .i64 e.at_,.int .i64 e.id] 3)) 0;simpa using this
   rintro x w2 ⟨rfl,rfl⟩;have hct2:=hct.out (((w.alloc (.cells #[.int .i64 k,.int .i64 e.id,.int .i64 e.srv.k,.int .i64 e.srv.q,.int .i64 e.srv.t,.int .i64 0,.slice a e.tasks.length c,.int .i64 e.at_] 71)).alloc (.cells #[.int .i64 e.at_,.int .i64 e.id] 3)).alloc (.cells #[.int .i64 0] 3)) ((h.out.gr ((((Gr.refl w).alloc _).alloc _).alloc _)).1);have gW:=(((Gr.refl w).alloc (.cells #[.int .i64 k,.int .i64 e.id,.int .i64 e.srv.k,.int .i64 e.srv.q,.int .i64 e.srv.t,.int .i64 0,.slice a e.tasks.length c,.int .i64 e.at_] 71)).alloc (.cells #[.int .i64 e.at_,.int .i64 e.id] 3)).alloc (.cells #[.int .i64 0] 3);replace hct2:=Lib.hid hct2;have hx:okN 0 = true:=by decide
   rw [hx];all_goals (replace hx:=Lib.hid hx)
   all_goals go_wp2_with fail
   all_goals first
    | (
     go_ret;refine ⟨retb (Eq.symm ?_),gW⟩;clear hfit3 hfit1 hct hct2 hr3 hr1 hfit hf hb hv hs hz hk hcap hf3;go_light;rw [hfin.out];first
      | (
       simp [hx.out, *]
       done)
      | (
       have hl:decide (e.tasks.length≤8) = true:=decide_eq_true (by omega);rw [hl];simp [hx.out, *]
       done)
      | (
       have hl:decide (e.tasks.length≤8) = false:=decide_eq_false (by omega);rw [hl];simp [hx.out, *]
       done))
    | (
     with_reducible refine hct2.out.mono ?_
     rintro x w3 ⟨rfl,g3⟩;go_wp2_with fail;go_ret;refine ⟨retb (Eq.symm ?_),gW.trans g3⟩;clear hfit3 hfit1 hct hct2 hr3 hr1 hfit hf hb hv hs hz hk hcap hf3 gW g3;go_light;rw [hfin.out];first
      | (
       simp [hx.out, *]
       done)
      | (
       have hl:decide (e.tasks.length≤8) = true:=decide_eq_true (by omega);rw [hl];simp [hx.out, *]
       done)
      | (
       have hl:decide (e.tasks.length≤8) = false:=decide_eq_false (by omega);rw [hl];simp [hx.out, *]
       done))
    | fail
  ·with_reducible refine (hfit1.out (w.heap.size + 1 + 1) e.po _ ?_).mono ?_
   ·have:=hr1.out ((w.alloc (.cells #[.int .i64 k,.int .i64 e.id,.int .i64 e.srv.k,.int .i64 e.srv.q,.int .i64 e.srv.t,.int .i64 e.po,.slice a e.tasks.length c,.int .i64 e.at_] 71)).alloc (.cells #[.int .i64 e.at_,.int .i64 e.id] 3)) e.po;simpa using this
   rintro x w2 ⟨rfl,rfl⟩;have hct2:=hct.out (((w.alloc (.cells #[.int .i64 k,.int .i64 e.id,.int .i64 e.srv.k,.int .i64 e.srv.q,.int .i64 e.srv.t,.int .i64 e.po,.slice a e.tasks.length c,.int .i64 e.at_] 71)).alloc (.cells #[.int .i64 e.at_,.int .i64 e.id] 3)).alloc (.cells #[.int .i64 e.po] 3)) ((h.out.gr ((((Gr.refl w).alloc _).alloc _).alloc _)).1);have gW:=(((Gr.refl w).alloc (.cells #[.int .i64 k,.int .i64 e.id,.int .i64 e.srv.k,.int .i64 e.srv.q,.int .i64 e.srv.t,.int .i64 e.po,.slice a e.tasks.length c,.int .i64 e.at_] 71)).alloc (.cells #[.int .i64 e.at_,.int .i64 e.id] 3)).alloc (.cells #[.int .i64 e.po] 3);replace hct2:=Lib.hid hct2;cases hx:okN e.po
   all_goals (replace hx:=Lib.hid hx)
   all_goals go_wp2_with fail
   all_goals first
    | (
     go_ret;refine ⟨retb (Eq.symm ?_),gW⟩;clear hfit3 hfit1 hct hct2 hr3 hr1 hfit hf hb hv hs hz hk hcap hf3;go_light;rw [hfin.out];first
      | (
       simp [hx.out, *]
       done)
      | (
       have hl:decide (e.tasks.length≤8) = true:=decide_eq_true (by omega);rw [hl];simp [hx.out, *]
       done)
      | (
       have hl:decide (e.tasks.length≤8) = false:=decide_eq_false (by omega);rw [hl];simp [hx.out, *]
       done))
    | (
     with_reducible refine hct2.out.mono ?_
     rintro x w3 ⟨rfl,g3⟩;go_wp2_with fail;go_ret;refine ⟨retb (Eq.symm ?_),gW.trans g3⟩;clear hfit3 hfit1 hct hct2 hr3 hr1 hfit hf hb hv hs hz hk hcap hf3 gW g3;go_light;rw [hfin.out];first
      | (
       simp [hx.out, *]
       done)
      | (
       have hl:decide (e.tasks.length≤8) = true:=decide_eq_true (by omega);rw [hl];simp [hx.out, *]
       done)
      | (
       have hl:decide (e.tasks.length≤8) = false:=decide_eq_false (by omega);rw [hl];simp [hx.out, *]
       done))
    | fail
abbrev entV (E:Nat→Addr) (b:Bool):Value:=if b then .nilIface else (Value.iface 297 (.pointer (some (E 4))))
set_option maxRecDepth 100000 in
set_option maxHeartbeats 1600000 in
theorem check_any {G:List Nat} {E:Nat→Addr} (x:EntM) (w:World) (h:x.ok Any w) (hE:EAt G E w) (i0:4 ∈ G) :
 Calls Tryz.prog 61 #[.agg #[.int .i64 x.e.cl,.int .i64 x.e.nu,.int .i64 x.e.kd,.int .i64 x.e.id,.int .i64 x.e.srv.k,.int .i64 x.e.srv.q,.int .i64 x.e.srv.t,.int .i64 x.e.po,.slice x.a x.e.tasks.length x.c,.int .i64 x.e.at_]] w fun e w' => e = .returned (entV E (entF x.e))∧Gr w w':=by
 have gw:=(Gr.refl w).alloc x.obj;have ho:=checkOrder_any x.e x.a x.c _ (h.gr gw);have he:=(hE.gr gw).c0 i0;replace gw:=Lib.hid gw;unfold entF;by_cases hn:0≤x.e.cl∧x.e.cl < 16∧1≤x.e.nu∧x.e.nu≤1099511627776
 ·rw [decide_eq_true hn,Bool.true_and];obtain ⟨n1,n2,n3,n4⟩:=hn;cases hf:ordF x.e with
  | true =>
   rw [hf] at ho;replace ho:=Lib.hid ho;replace hf:=Lib.hid hf;clear h;go_enter Tryz.func61,Tryz.ntmps61;go_wp2_with fail;refine (ho.out).mono ?_;rintro e wa ⟨rfl,ga⟩;obtain ⟨ca,fa,sa⟩:=ga.cells;try simp only [size_drewN] at ca fa sa
   try simp only [World.size_alloc] at ca fa sa
   try simp only [World.size_drew] at ca fa sa
   try simp only [World.size_setCell] at ca fa sa
   have za0:w.heap.size < wa.heap.size:=by omega
   have ya0:w.heap.size≤wa.heap.size:=by omega
   have ka0:=fun o => ca (w.heap.size) o (by omega)
   have ja0:=fun o => fa (w.heap.size) o (by omega)
   go_wp2_with fail;go_ret;exact ⟨rfl,gw.out.trans ga⟩
  | false =>
   rw [hf] at ho;replace ho:=Lib.hid ho;replace hf:=Lib.hid hf;clear h;go_enter Tryz.func61,Tryz.ntmps61;go_wp2_with fail;refine (ho.out).mono ?_;rintro e wa ⟨rfl,ga⟩;obtain ⟨ca,fa,sa⟩:=ga.cells;try simp only [size_drewN] at ca fa sa
   try simp only [World.size_alloc] at ca fa sa
   try simp only [World.size_drew] at ca fa sa
   try simp only [World.size_setCell] at ca fa sa
   have za0:w.heap.size < wa.heap.size:=by omega
   have ya0:w.heap.size≤wa.heap.size:=by omega
   have ka0:=fun o => ca (w.heap.size) o (by omega)
   have ja0:=fun o => fa (w.heap.size) o (by omega)
   have hea:=(hE.gr (gw.out.trans ga)).c0 i0;go_wp2_with fail;go_ret;exact ⟨rfl,gw.out.trans ga⟩
 ·rw [decide_eq_false hn,Bool.false_and];clear h ho;by_cases n1:x.e.cl < 0
  ·clear hn;go_enter Tryz.func61,Tryz.ntmps61;go_wp2_with fail;go_ret;exact ⟨rfl,gw.out⟩
  ·by_cases n2:16≤x.e.cl
   ·clear hn;go_enter Tryz.func61,Tryz.ntmps61;go_wp2_with fail;go_ret;exact ⟨rfl,gw.out⟩
   ·by_cases n3:x.e.nu < 1
    ·clear hn;go_enter Tryz.func61,Tryz.ntmps61;go_wp2_with fail;go_ret;exact ⟨rfl,gw.out⟩
    ·have n4:1099511627776 < x.e.nu:=by omega
     clear hn;go_enter Tryz.func61,Tryz.ntmps61;go_wp2_with fail;go_ret;exact ⟨rfl,gw.out⟩
theorem Blk.new1 {w:World} {n:Nat} {cs:Array Value} {t:TypeId} (h:w.heap.size = n):Blk (w.alloc (.cells cs t)) n cs t:=by
 subst h;exact Blk.new w cs t
end Go.Proofs.YteigofaccjaobaaGreatDoor
