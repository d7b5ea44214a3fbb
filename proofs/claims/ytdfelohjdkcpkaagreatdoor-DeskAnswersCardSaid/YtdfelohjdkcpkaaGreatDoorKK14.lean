/- A region that draws its order and stores at its end into a cell that it read: what was read ahead is taken first, so long as the store has not come up. Nothing of the program is named here. -/
import Derived.StillTail
import Derived.Test.YtdfelohjdkcpkaaGreatDoorKK13
set_option maxRecDepth 100000
set_option maxHeartbeats 6400000
namespace Go.Proofs.YtdfelohjdkcpkaaGreatDoor
section
variable {P:Program} {ops:Array Oper} {Q:Exit→Act→World→Prop} {md:Region.Mode} {S:World→Prop}
def Dw (P:Program) (md:Region.Mode) (ops:Array Oper) (Q:Exit→Act→World→Prop) (S:World→Prop) (z:Nat):Nat→Array Bool→Act→World→Prop
 | 0,listed,a,w => Region.ready md ops listed = []∧Q .normal a w
 | fuel + 1,listed,a,w =>
  (Region.ready md ops listed = []→Q .normal a w) ∧
  ∀ i ∈ Region.ready md ops listed,wpOp P ops Q i (fun a' w' => (i ≠ z→S w')∧Dw P md ops Q S z fuel (listed.setIfInBounds i true) a' w') a w
theorem GT {z:Nat}:∀ (fuel:Nat) (listed:Array Bool) (a:Act) (w:World),Dw P md ops Q S z fuel listed a w→wpAny P md ops Q fuel listed a w
 | 0,_,_,_,h => h
 | fuel + 1,_,_,_,h => ⟨h.1,fun i hi => wpOp_mono (fun a' w' h' => GT fuel _ a' w' h'.2) (h.2 i hi)⟩
theorem IZ {z i:Nat} {oi:Oper} {v:Value} (hi:ops[i]? = some oi) (hsel:∀ (j:Nat) (o:Oper) cs b,ops[j]? = some o→o.op ≠ .select cs b)
 (hQ:∀ c a w,Q (.panic c) (a.put oi.dst v) w→Q (.panic c) a w) (hz:Region.waitsFor md ops z i = true) :
 ∀ (fuel:Nat) (listed:Array Bool) (a:Act) (w:World),
  (∀ j oj,ops[j]? = some oj→j ≠ i→listed.getD j true = false→(∀ e ∈ oj.after,Region.binds md e = true→e.on ≠ i)→oi.apart ops oj = true) →
  i ∈ Region.ready md ops listed→YieldsIf P ops S oi v a→S w →
  Dw P md ops Q S z fuel (listed.setIfInBounds i true) (a.put oi.dst v) w→Dw P md ops Q S z (fuel + 1) listed a w:=by
 intro fuel;induction fuel with
 | zero =>
  intro listed a w _ hr hy hS H;refine ⟨fun h => (by rw [h] at hr;cases hr),fun j hj => ?_⟩;by_cases hji:j = i
  ·subst hji;exact hy.wpOp hi hS ⟨fun _ => hS,H⟩
  ·have:=ready_mono hj hji;rw [H.1] at this;cases this
 | succ fuel ih =>
  intro listed a w hfree hr hy hS H;refine ⟨fun h => (by rw [h] at hr;cases hr),fun j hj => ?_⟩;by_cases hji:j = i
  ·subst hji;exact hy.wpOp hi hS ⟨fun _ => hS,H⟩
  ·have h1:=H.2 j (ready_mono hj hji);obtain ⟨hjun,oj,hoj,hall⟩:=mem_ready.1 hj;have hnot:∀ e ∈ oj.after,Region.binds md e = true→e.on ≠ i:=fun e he hb heq => by
    have h1:=hall e he hb;have h0:=(mem_ready.1 hr).1;rw [heq] at h1;rcases Nat.lt_or_ge i listed.size with h' | h'
    ·simp [h'] at h0 h1;rw [h0] at h1;cases h1
    ·simp [Array.getElem?_eq_none h'] at h1
   have hjz:j ≠ z:=fun e => by
    subst e;obtain ⟨oz,hoz,e,he,hb,hon⟩:=Region.waitsFor_spec hz;have:oz = oj:=Option.some.inj (hoz.symm.trans hoj);subst this;exact hnot e he hb hon
   have h2:=wpOp_putIf hoj (hfree j oj hoj hji hjun hnot) (fun cs b => hsel i oi cs b hi) (fun cs b => hsel j oj cs b hoj) hQ hy h1;have hfree':∀ k ok,ops[k]? = some ok→k ≠ i→(listed.setIfInBounds j true).getD k true = false →
    (∀ e ∈ ok.after,Region.binds md e = true→e.on ≠ i)→oi.apart ops ok = true:=fun k ok hk hki hun hno => by
    refine hfree k ok hk hki ?_ hno;by_cases hjk:j = k
    ·subst hjk;exact hjun
    ·rw [getD_set_ne true hjk] at hun;exact hun
   refine wpOp_mono (fun a' w' h3 => ⟨h3.2.1,ih (listed.setIfInBounds j true) a' w' hfree' (ready_mono hr (Ne.symm hji)) h3.1 (h3.2.1 hjz) ?_⟩) h2;rw [Array.setIfInBounds_comm _ _ hji];exact h3.2.2
theorem Ad {z i:Nat} {oi:Oper} {v:Value} {fuel:Nat} {listed:Array Bool} {a:Act} {w:World} (hi:ops[i]? = some oi)
 (hs:Region.noSelect ops = true) (hf:Region.free md ops listed i = true) (hr:(Region.ready md ops listed).contains i = true) (hz:Region.waitsFor md ops z i = true)
 (hQ:∀ c a w,Q (.panic c) (a.put oi.dst v) w→Q (.panic c) a w) (hw:Region.wanted oi (yielded ops a.tmps) = true) (hy:∀ w,S w→(execOp a.eval oi).run P w = .ok (.value v) w) (hS:S w)
 (h:Dw P md ops Q S z fuel (listed.setIfInBounds i true) (a.put oi.dst v) w):Dw P md ops Q S z (fuel + 1) listed a w :=
 IZ hi (Region.noSelect_spec hs) hQ hz fuel listed a w (Region.free_spec hi hf) (by simpa using hr) (.inl ⟨hw,hy⟩) hS h
theorem AK {z i:Nat} {o:Oper} {fuel:Nat} {listed:Array Bool} {a:Act} {w:World} (hr:Region.ready md ops listed = [i]) (ho:ops[i]? = some o)
 (h:∀ K':Act→World→Prop,Shut (∀ a w,(i ≠ z→S w)→Dw P md ops Q S z fuel (listed.setIfInBounds i true) a w→K' a w)→if Region.wanted o (yielded ops a.tmps) = true then Oper.wp P o a w K' Q else K' (a.put o.dst undef) w):Dw P md ops Q S z (fuel + 1) listed a w :=
 ⟨fun h0 => absurd (hr ▸ h0) (by simp),fun j hj => by
  rw [hr] at hj;obtain rfl:j = i:=by simpa using hj
  exact wpOp_step ho (fun K' hK => h K' (fun a w hS hW => hK a w ⟨hS,hW⟩))⟩
theorem CS {z:Nat} {listed:Array Bool} {a:Act} {w:World} (hr:Region.ready md ops listed = []) (h:Q .normal a w) :
 ∀ fuel,Dw P md ops Q S z fuel listed a w
 | 0 => ⟨hr,h⟩
 | _ + 1 => ⟨fun _ => h,by rw [hr];simp⟩
theorem CR {id:Nat} (z:Nat) (S:World→Prop) {a:Act} {w:World} (hm:P.follows .mixedOrders = true)
 (h:Dw P .any ops (NoPanic Q) S z ops.size (Array.replicate ops.size false) a w.drew):(Code.region id ops true).wp P Q a w :=
 wp_region_noPanic (wp_region_any hm (GT _ _ _ _ h))
end
end Go.Proofs.YtdfelohjdkcpkaaGreatDoor
namespace Go.Proofs.YtdfelohjdkcpkaaGreatDoor
open Go.RowKit
theorem IG {G:List Nat} {E:Nat→Addr} (s:Ao) (a:Option Addr) (l:List Ao) (c:Nat) (w:World) (hE:CK G E w) (i0:9 ∈ G) (i1:11 ∈ G) (i3:6 ∈ G) (hl:AJ w a l) (hm:l.length≤maxLen) (hk:Am s l = none) :
 Calls Tryz.prog 168 #[.agg #[.int .i64 s.k,.int .i64 s.q,.int .i64 s.t],.slice a l.length c] w fun e w' => e = .returned (.tuple #[.int .i64 (Bo s l),.nilIface])∧Gr w w':=by
 obtain ⟨D,hD⟩:=zE (Bo s l);rw [← hD];have hDo:∀ d:Nat,1≤d→d≤4096→BN l d≤Au (Ak s) d→(∀ k:Nat,1≤k→k < d→¬ BN l k≤Au (Ak s) k)→D = d:=fun d h1 h2 h3 h4 => by rw [hD];exact F4 h1 h2 h3 h4
 clear hD;have hki:∀ w',Gr w w'→Calls Tryz.prog 163 #[.agg #[.int .i64 s.k,.int .i64 s.q,.int .i64 s.t],.slice a l.length c] w' fun e w'' => e = .returned .nilIface∧Gr w' w'':=fun w' g => by
  have:=Fy s a l c w' (hE.gr g) i0 i1 i3 (hl.gr g) hm;rw [hk] at this;exact this
 have hds:=HA hk;obtain ⟨hp,hs,-,-⟩:=Df hk;obtain ⟨hal,h8⟩:=Ce hs;have hrq:=fun w' (n:Nat) (hn:n≤4096) (g:Gr w w') => H7 a l c n w' (hl.gr g) (G1 hs (n:=(n:Int)) ⟨by omega,by omega⟩)
 have hbo:=fun w' (n:Nat) (hn:n≤4096) => EW s n w' hp (⟨by omega,by omega⟩:A2 (n:Int))
 have hrb:∀ n:Nat,n≤4096→0≤BN l n∧BN l n≤8 * (1099511627776 + 512):=fun n hn => by
  have:=C4 (fun s => BI s n) l (1099511627776 + 512) (fun x hx => FY ((Ao.leg_iff _).1 (List.all_eq_true.1 hal x hx)) ⟨by omega,by omega⟩);have h9:(l.length:Int)≤8:=by omega
  unfold BN;omega
 have hgb:∀ n:Nat,n≤4096→0≤Au (Ak s) n∧Au (Ak s) n≤n:=fun n hn => ⟨Bx (Be hp) _,Dy (Be hp) (by omega)⟩
 have hE0:=fun w' (g:Gr w w') => (hE.gr g)
 unfold BN at *;refine Br ?_ hDo hki hrq hbo hds hrb hgb hk;clear hDo hki hrq hbo hds hrb hgb hk;intro hDo hki hrq hbo hds hrb hgb hk;refine AZ ?_ hp hs hal;clear hp hs hal;intro hp hs hal;go_enter Tryz.func168,Tryz.ntmps168;go_wp2_with fail;refine (hki.out _ ((Gr.refl w).alloc _)).mono ?_;rintro e w1 ⟨rfl,g1⟩;obtain ⟨c1,f1,s1⟩:=g1.cells;try simp only [Aa] at c1 f1 s1
 try simp only [zL] at c1 f1 s1
 try simp only [zD] at c1 f1 s1
 try simp only [zS] at c1 f1 s1
 have z10:w.heap.size < w1.heap.size:=by omega
 have y10:w.heap.size≤w1.heap.size:=by omega
 have k10:=fun o => c1 (w.heap.size) o (by omega)
 have j10:=fun o => f1 (w.heap.size) o (by omega)
 go_wp2_with fail;have gA:Gr w w1:=((Gr.refl w).alloc _).trans g1;go_loopw [7] (fun lv wr => ∃ n:Nat,1≤n∧n≤4096∧lv = .int .i64 n∧Hid (∀ k:Nat,1≤k→k < n→¬ A0 (fun s => BI s k) l≤Au (Ak s) k)∧Gr w1 wr) (fun lv _ => 4097 - (intOf lv).toNat);case atStart => exact ⟨1,by omega,by omega,rfl,Lib.hid (fun k h1 h2 => by omega),Gr.refl _⟩
 case round =>
  obtain ⟨n,hn1,hn2,rfl,hmin,hg⟩:=hrel;have gall:Gr w wr:=gA.trans hg;obtain ⟨cg,fg,sg⟩:=hg.cells;have k1:=fun o => cg w.heap.size o (by omega)
  clear cg fg;have hnt:decide ((n:Int)≤4096) = true:=decide_eq_true (by omega);obtain ⟨r1,r2⟩:=hrb.out n hn2;obtain ⟨r3,r4⟩:=hgb.out n hn2;have hrq1:=hrq.out wr n hn2 gall;have hbo1:=fun w' => hbo.out w' n hn2
  replace hrq1:=zH hrq1;replace hbo1:=zH hbo1;by_cases hle:A0 (fun s => BI s n) l≤Au (Ak s) n
  ·have hle2:decide (A0 (fun s => BI s n) l≤Au (Ak s) n) = true:=decide_eq_true hle;obtain ⟨v,hv⟩:=zE (A0 (fun s => BI s n) l);obtain ⟨u,hu⟩:=zE (Au (Ak s) n);rw [← hv] at hrq1 hle2 r1 r2 hle;rw [← hu] at hbo1 hle2 r3 r4 hle;replace hv:=zH hv;replace hu:=zH hu;go_wp2_with fail;refine hrq1.out.mono ?_;rintro e w2 ⟨rfl,g2⟩;obtain ⟨c2,f2,s2⟩:=g2.cells;have k2:=fun o => c2 w.heap.size o (by omega)
   clear c2 f2;go_wp2_with fail;refine (hbo1.out _).mono ?_;rintro e w3 ⟨rfl,g3⟩;go_wp2_with fail;go_ret2;exact ⟨by rw [hDo.out n hn1 hn2 (by rw [← hv.out,← hu.out];exact hle) hmin.out];rfl,(gall.trans g2).trans g3⟩
  ·have hlt:n < 4096:=by
    by_cases h:n < 4096
    ·exact h
    ·obtain rfl:n = 4096:=by omega
     exact absurd hds.out hle
   have hle2:decide (A0 (fun s => BI s n) l≤Au (Ak s) n) = false:=decide_eq_false hle;have hle3:Au (Ak s) n < A0 (fun s => BI s n) l:=by omega
   have hmin2:∀ k:Nat,1≤k→k < n + 1→¬ A0 (fun s => BI s k) l≤Au (Ak s) k:=fun k h1 h2 => by
    by_cases hkn:k = n
    ·rw [hkn];exact hle
    ·exact hmin.out k h1 (by omega)
   replace hmin2:=zH hmin2;clear hle;obtain ⟨v,hv⟩:=zE (A0 (fun s => BI s n) l);obtain ⟨u,hu⟩:=zE (Au (Ak s) n);rw [← hv] at hrq1 hle2 r1 r2 hle3;rw [← hu] at hbo1 hle2 r3 r4 hle3;replace hv:=zH hv;replace hu:=zH hu;go_wp2_with fail;refine hrq1.out.mono ?_;rintro e w2 ⟨rfl,g2⟩;obtain ⟨c2,f2,s2⟩:=g2.cells;have k2:=fun o => c2 w.heap.size o (by omega)
   clear c2 f2;go_wp2_with fail;refine (hbo1.out _).mono ?_;rintro e w3 ⟨rfl,g3⟩;go_wp2_with fail;go_roundw;case rel => exact ⟨n + 1,by omega,by omega,by go_num,Lib.hid (fun k h1 h2 => by have:=hmin2.out k h1 h2;omega),(hg.trans g2).trans g3⟩
   case measure => simp [intOf];omega
theorem Kv {G:List Nat} {E:Nat→Addr} (s:Ao) (a:Option Addr) (l:List Ao) (c:Nat) (w:World) (hE:CK G E w) (i0:9 ∈ G) (i1:11 ∈ G) (i3:6 ∈ G) (hl:AJ w a l) (hm:l.length≤maxLen) {g:Nat} (hk:Am s l = some g) :
 Calls Tryz.prog 168 #[.agg #[.int .i64 s.k,.int .i64 s.q,.int .i64 s.t],.slice a l.length c] w fun e w' => e = .returned (.tuple #[.int .i64 0,.iface 384 (.pointer (some (E g)))])∧Gr w w':=by
 have hki:∀ w',Gr w w'→Calls Tryz.prog 163 #[.agg #[.int .i64 s.k,.int .i64 s.q,.int .i64 s.t],.slice a l.length c] w' fun e w'' => e = .returned (.iface 384 (.pointer (some (E g))))∧Gr w' w'':=fun w' gg => by
  have:=Fy s a l c w' (hE.gr gg) i0 i1 i3 (hl.gr gg) hm;rw [hk] at this;exact this
 replace hki:=zH hki;replace hk:=zH hk;go_enter Tryz.func168,Tryz.ntmps168;go_wp2_with fail;refine (hki.out _ ((Gr.refl w).alloc _)).mono ?_;rintro e w1 ⟨rfl,g1⟩;obtain ⟨c1,f1,s1⟩:=g1.cells;try simp only [Aa] at c1 f1 s1
 try simp only [zL] at c1 f1 s1
 try simp only [zD] at c1 f1 s1
 try simp only [zS] at c1 f1 s1
 have z10:w.heap.size < w1.heap.size:=by omega
 have y10:w.heap.size≤w1.heap.size:=by omega
 have k10:=fun o => c1 (w.heap.size) o (by omega)
 have j10:=fun o => f1 (w.heap.size) o (by omega)
 go_wp2_with fail;go_ret2;exact ⟨rfl,((Gr.refl w).alloc _).trans g1⟩
theorem CW {α:Type} {k:Nat} {enc:α→List Value} (hk:∀ s,(enc s).length = k) {M:List α} {i:Nat} {x y:α} (hx:M[i]? = some x) {j:Nat} (hj:j < k) {v:Value} (h:(enc x).set j v = enc y):(M.flatMap enc).set (i * k + j) v = (M.set i y).flatMap enc:=by
 have hi:=AQ hx;have h1:M = M.take i ++ x :: M.drop (i + 1):=by
  obtain ⟨h3,h4⟩:=List.getElem?_eq_some_iff.1 hx;rw [← h4,← List.drop_eq_getElem_cons h3,List.take_append_drop]
 have hl:(M.take i).length = i:=by simp;omega
 have hA:((M.take i).flatMap enc).length = i * k:=by
  have:∀ l:List α,(l.flatMap enc).length = l.length * k:=by
   intro l;induction l with
   | nil => simp
   | cons a t ih => rw [List.flatMap_cons,List.length_append,ih,hk,List.length_cons,Nat.succ_mul];omega
  rw [this,hl]
 have h2:M.flatMap enc = (M.take i).flatMap enc ++ (enc x ++ (M.drop (i + 1)).flatMap enc):=by
  conv => lhs;rw [h1]
  rw [List.flatMap_append,List.flatMap_cons]
 have h3:M.set i y = M.take i ++ y :: M.drop (i + 1):=by
  conv => lhs;rw [h1]
  rw [List.set_append,if_neg (by omega),hl,Nat.sub_self];rfl
 rw [h2,List.set_append,if_neg (by rw [hA];omega),hA,Nat.add_sub_cancel_left,List.set_append,if_pos (by rw [hk];exact hj),h,h3,List.flatMap_append,List.flatMap_cons]
theorem Cg {w:World} {B B':Nat} {e e':TypeId} {k k':Nat} {v v':Value} {n n':Nat} {xs xs':List Value} (h:w.ownsRow B e k v n xs) (h':w.ownsRow B' e' k' v' n' xs') (he:e ≠ e') {g:Nat} (hg:v.ownBlock = some g):v'.ownBlock ≠ some g:=by
 intro hg';rcases h.2 with ⟨h1,_⟩ | ⟨g1,c1,u1,h1,_,h3,_⟩
 ·rw [h1] at hg;cases hg
 ·rcases h'.2 with ⟨h1',_⟩ | ⟨g2,c2,u2,h1',_,h3',_⟩
  ·rw [h1'] at hg';cases hg'
  ·rw [h1] at hg;rw [h1'] at hg';simp [Value.ownBlock] at hg hg';subst hg hg';rw [h3] at h3';injection h3' with h4
   injection h4 with _ h5 _
   exact he h5
theorem Aj {w:World} {B:Nat} {e t:TypeId} {k:Nat} {v:Value} {n:Nat} {xs:List Value} {b:Nat} {cs:Array Value} (h:w.ownsRow B e k v n xs) (hb:Ag w b cs t) (he:e ≠ t):v.ownBlock ≠ some b:=by
 intro hg;rcases h.2 with ⟨h1,_⟩ | ⟨g1,c1,u1,h1,_,h3,_⟩
 ·rw [h1] at hg;cases hg
 ·rw [h1] at hg;simp [Value.ownBlock] at hg;subst hg;rw [show w.heap[g1]? = _ from hb] at h3;injection h3 with h4
  injection h4 with _ h5 _
  exact he h5.symm
theorem Ax.ok.but {K:Nat→Prop} {S:List Nat} {w w':World} {x:Ax} (h:x.ok K w) (g:Aw S w w') (hd:∀ ad,x.a = some ad→x.e.tasks ≠ []→ad.block ∉ S):x.ok K w':=by
 have h1:x.ok (fun b => K b∧b ∉ S) w:=⟨⟨h.1.1,fun ad ha ht => ⟨h.1.2 ad ha ht,hd ad ha ht⟩⟩,h.2⟩
 exact (h1.grx g (fun y hy hk => hk.2 hy)).mono (fun b _ hk => hk.1)
theorem A5.ghosts {B:Nat} {S:List Nat} {w w':World} {T:TM} (h:A5 B w T) (g:Aw S w w') (hn:∀ k,(Value.slice T.an T.N.length T.cn).ownBlock = some k→k ∉ S) (ht:∀ x ∈ T.N,∀ ad,x.a = some ad→x.e.tasks ≠ []→ad.block ∉ S) {G:List Gh} {ag:Option Addr} {cg:Nat} (l n:Int) (hg:w'.ownsRow B 43 5 (.slice ag G.length cg) G.length (G.flatMap Gh.cells)) (hd:∀ x ∈ T.N,∀ ad,x.a = some ad→x.e.tasks ≠ []→(Value.slice ag G.length cg).ownBlock ≠ some ad.block) (hl:G.length≤1000000):A5 B w' ⟨T.N,T.an,T.cn,G,ag,cg,l,n⟩ :=
 ⟨BW h.n g hn,hg,fun x hx => (h.k x hx).but g (ht x hx),h.d,hd,fun x hx ad ha htt o => by rw [g.frozen ((h.k x hx).1.1.lt ha htt) (ht x hx ad ha htt)];exact h.f x hx ad ha htt o,h.l1,hl⟩
structure Bn (B:Nat) (w:World) (tb:Nat) (T:TM):Prop where
 o:Ag w tb T.row 27
 t:A5 B w T
 hB:B≤tb
 b:∀ x ∈ T.N,∀ ad,x.a = some ad→x.e.tasks ≠ []→ad.block ≠ tb
theorem Bn.gr {B:Nat} {w w':World} {tb:Nat} {T:TM} (h:Bn B w tb T) (g:Gr w w'):Bn B w' tb T:=⟨h.o.gr g,h.t.gr g,h.hB,h.b⟩
theorem Bn.any {B:Nat} {w:World} {tb:Nat} {T:TM} (h:Bn B w tb T):Av Any w T:=h.t.at.any
theorem BJ {w:World} {B:Nat} {a:Option Addr} {c:Nat} {l:List Ao} (h:w.ownsRow B 29 3 (.slice a l.length c) l.length (l.flatMap Ao.cells)):AJ w a l:=by
 obtain ⟨a1,c1,e1,r1,_,_⟩:=Af Ao.cells_len h;injection e1 with p1 _ _
 subst p1;exact MB r1
def DrnP (B:Nat) (W0 w:World) (tb:Nat) (T:TM) (p:Int) (e:Ending) (w':World):Prop:=e = .returned (.tuple #[])∧∃ T':TM,Bn B w' tb T'∧T'.v = T.v.drained p∧T'.N = T.N∧Gr W0 w'∧Aw (T.ag.map (·.block)).toList w w'
def Bz (p m:Int) (g:Gh):Gh:=if g.par = p then {g with till:=max g.till m} else g
theorem Io {L:List Gh} {p m:Int} {i:Nat} {x:Gh} (hx:L[i]? = some x):((L.take i).map (Bz p m) ++ L.drop i).set i (Bz p m x) = (L.take (i + 1)).map (Bz p m) ++ L.drop (i + 1):=by
 have hi:=AQ hx;have hl:((L.take i).map (Bz p m)).length = i:=by simp;omega
 rw [List.set_append,if_neg (by omega),hl,Nat.sub_self,Ae hx,List.map_append,List.append_assoc];congr 1;obtain ⟨h3,h4⟩:=List.getElem?_eq_some_iff.1 hx;rw [List.drop_eq_getElem_cons h3,h4];rfl
theorem JG {L:List Gh} {p m:Int} {i:Nat} {x:Gh} (hx:L[i]? = some x):((L.take i).map (Bz p m) ++ L.drop i)[i]? = some x:=by
 have hi:=AQ hx;have hl:((L.take i).map (Bz p m)).length = i:=by simp;omega
 rw [List.getElem?_append_right (by omega),hl,Nat.sub_self,List.getElem?_drop];simpa using hx
theorem G4 {α:Type} {l:List α} {i:Nat} {x:α} (h:l[i]? = some x):l.set i x = l:=by
 apply List.ext_getElem?;intro j;rw [List.getElem?_set];by_cases hj:i = j
 ·subst hj;rw [if_pos rfl,if_pos (AQ h),h]
 ·rw [if_neg hj]
theorem Gp {G:List Nat} {E:Nat→Addr} (W0:World) (hE:CK G E W0) (i0:9 ∈ G) (i1:11 ∈ G) (i3:6 ∈ G) (T:TM) (w:World) (tb B:Nat) (h:Bn B w tb T) (hB0:W0.heap.size≤B) (g0:Gr W0 w) (hs:EF T.N) (p:Int) (hn1:0≤T.now) (hn2:T.now≤1099511627776) :
 Calls Tryz.prog 164 #[.pointer (some ⟨tb,0,none⟩),.int .i64 p] w (DrnP B W0 w tb T p):=by
 have hsv:=D2 T p w h.any hs;obtain ⟨c0,c1,c2,c3⟩:=h.o.c4;obtain ⟨L,hL⟩:=zE (T.v.counted p);have hLl:L.length≤2000000:=by
  have h1:=Cj T.N p T.N.length;have h2:=Ct T.G p T.G.length;have h3:=h.t.l1;have h4:=h.t.l2;rw [hL,CP,List.length_append];omega
 refine B0 ?_ h hsv hs hL;clear h hsv hs hL;intro h hsv hs hL;go_enter Tryz.func164,Tryz.ntmps164;go_wp2_with fail;refine hsv.out.mono ?_;rintro e w1 ⟨s,hsd,rfl,g1⟩;obtain ⟨w2,hw2⟩:=zE (w1.alloc (.cells #[.int .i64 s.k,.int .i64 s.q,.int .i64 s.t] 29));have g2:Gr w1 w2:=by rw [hw2];exact (Gr.refl w1).alloc _
 have hS2:Ag w2 w1.heap.size #[.int .i64 s.k,.int .i64 s.q,.int .i64 s.t] 29:=by rw [hw2];exact Ag.new w1 _ _
 have hz2:w2.heap.size = w1.heap.size + 1:=by rw [hw2];simp
 have h2:=(h.out.gr g1).gr g2;have gW2:=(g0.trans g1).trans g2;have gd:Gr w2 w2.drew:=(Gr.refl w2).drew;have hcn:=CX T p w2.drew ((h2.gr gd).any);rw [← hL.out] at hcn;clear c0 c1 c2 c3;obtain ⟨d0,d1,d2,d3⟩:=h2.o.c4;obtain ⟨b0,b1,b2⟩:=hS2.c3;refine Dn ?_ hw2 hS2 h2 hcn hz2 hsd;clear hw2 hS2 h2 hcn hz2 hsd;intro hw2 hS2 h2 hcn hz2 hsd;have hsd2:s = (T.v.server p).getD AU:=hsd.out;replace hsd2:=zH hsd2;cases hk:Am s L with
 | some g =>
  have hdr:T.v.drained p = T.v:=by
   unfold Ab.drained;dsimp only;rw [← hsd.out,← hL.out,hk,if_neg (by simp)]
  replace hdr:=zH hdr;replace hk:=zH hk;go_upto_region 1 with fail
  rw [← hw2.out];go_region_held3 (fun w' => w'.cell? ⟨tb,0,none⟩ = some (.slice T.an T.N.length T.cn)∧w'.cell? ⟨tb,1,none⟩ = some (.slice T.ag T.G.length T.cg)∧w'.cell? ⟨tb,2,none⟩ = some (.int .i64 T.last)∧w'.cell? ⟨tb,3,none⟩ = some (.int .i64 T.now)∧w'.cell? ⟨w1.heap.size,0,none⟩ = some (.int .i64 s.k)∧w'.cell? ⟨w1.heap.size,1,none⟩ = some (.int .i64 s.q)∧w'.cell? ⟨w1.heap.size,2,none⟩ = some (.int .i64 s.t)) (simp (maxDischargeDepth:=8) [go_sem, *])
   (first
    | (go_at_call 162;(with_reducible refine hcn.out.mono ?_);rintro e w3 ⟨a3,k3,rfl,hO3,g3⟩;have hT3:=(h2.out.gr gd).gr g3;have hS3:=(hS2.out.gr gd).gr g3;obtain ⟨e0,e1,e2,e3⟩:=hT3.o.c4;obtain ⟨f0,f1,f2⟩:=hS3.c3;refine AZ ?_ hT3 hS3 hO3;clear hT3 hS3 hO3;intro hT3 hS3 hO3)
    | (go_at_call 168;(with_reducible refine (Kv s a3 L k3 w3 (hE.gr ((gW2.trans gd).trans g3)) i0 i1 i3 (BJ hO3.out) (by unfold maxLen;omega) hk.out).mono ?_);rintro e w4 ⟨rfl,g4⟩;have hT4:=hT3.out.gr g4;have hS4:=hS3.out.gr g4;obtain ⟨m0,m1,m2,m3⟩:=hT4.o.c4;obtain ⟨n0,n1,n2⟩:=hS4.c3;replace hT4:=zH hT4;replace hS4:=zH hS4)
    | fail)
  clear d0 d1 d2 d3 e0 e1 e2 e3 m0 m1 m2 m3 b0 b1 b2 f0 f1 f2 n0 n1 n2;go_wp2_with fail;refine bodyPost_ret (results_none rfl _ _ _) rfl ?_;exact ⟨rfl,T,hT4.out,by rw [hdr.out],rfl,((gW2.trans gd).trans g3).trans g4,((((g1.trans g2).trans gd).trans g3).trans g4).x _⟩
 | none =>
  obtain ⟨dd,hdd⟩:=zE (Bo s L);have hddl:dd≤4096:=by
   rw [hdd];unfold Bo;cases hf:(List.range 4096).find? (fun (k:Nat) => decide (BN L ((k:Int) + 1)≤Au (Ak s) ((k:Int) + 1))) with
   | none => simp
   | some n =>
    have:=List.mem_of_find?_eq_some hf;simp at this ⊢;omega
  have hdr:T.v.drained p = ⟨T.v.nodes,T.G.map (Bz p (T.now + dd)),T.last,T.now⟩:=by
   unfold Ab.drained;dsimp only;rw [← hsd.out,← hL.out,hk,if_pos rfl,← hdd];rfl
  have hdm:=fun (w3:World) (a3:Option Addr) (k3:Nat) (gg:Gr W0 w3) (hl:AJ w3 a3 L) => IG s a3 L k3 w3 (hE.gr gg) i0 i1 i3 hl (by unfold maxLen;omega) hk
  rw [← hdd] at hdm;refine B0 ?_ hdr hk hdd hdm;clear hdr hk hdd hdm;intro hdr hk hdd hdm;go_upto_region 1 with fail
  rw [← hw2.out];go_region_held3 (fun w' => w'.cell? ⟨tb,0,none⟩ = some (.slice T.an T.N.length T.cn)∧w'.cell? ⟨tb,1,none⟩ = some (.slice T.ag T.G.length T.cg)∧w'.cell? ⟨tb,2,none⟩ = some (.int .i64 T.last)∧w'.cell? ⟨tb,3,none⟩ = some (.int .i64 T.now)∧w'.cell? ⟨w1.heap.size,0,none⟩ = some (.int .i64 s.k)∧w'.cell? ⟨w1.heap.size,1,none⟩ = some (.int .i64 s.q)∧w'.cell? ⟨w1.heap.size,2,none⟩ = some (.int .i64 s.t)) (simp (maxDischargeDepth:=8) [go_sem, *])
   (first
    | (go_at_call 162;(with_reducible refine hcn.out.mono ?_);rintro e w3 ⟨a3,k3,rfl,hO3,g3⟩;have hT3:=(h2.out.gr gd).gr g3;have hS3:=(hS2.out.gr gd).gr g3;obtain ⟨e0,e1,e2,e3⟩:=hT3.o.c4;obtain ⟨f0,f1,f2⟩:=hS3.c3;refine AZ ?_ hT3 hS3 hO3;clear hT3 hS3 hO3;intro hT3 hS3 hO3)
    | (go_at_call 168;(with_reducible refine (hdm.out w3 a3 k3 ((gW2.trans gd).trans g3) (BJ hO3.out)).mono ?_);rintro e w4 ⟨rfl,g4⟩;have hT4:=hT3.out.gr g4;have hS4:=hS3.out.gr g4;obtain ⟨m0,m1,m2,m3⟩:=hT4.o.c4;obtain ⟨n0,n1,n2⟩:=hS4.c3;replace hT4:=zH hT4;replace hS4:=zH hS4)
    | fail)
  clear d0 d1 d2 d3 e0 e1 e2 e3 m0 m1 m2 m3 b0 b1 b2 f0 f1 f2 n0 n1 n2;have gW4:=((gW2.trans gd).trans g3).trans g4;have z1:=hT4.out.o.cell (i:=1) (v:=.slice T.ag T.G.length T.cg) rfl;go_wp2_with fail;clear z1;have hGl:=hT4.out.t.l2;go_loopw [35] (fun iv wr => ∃ i:Nat,i≤T.G.length∧iv = .int .i64 i∧Hid (Bn B wr tb ⟨T.N,T.an,T.cn,(T.G.take i).map (Bz p (T.now + dd)) ++ T.G.drop i,T.ag,T.cg,T.last,T.now⟩)∧Gr W0 wr∧Aw (T.ag.map (·.block)).toList w wr) (fun iv _ => T.G.length - (intOf iv).toNat);case atStart => exact ⟨0,Nat.zero_le _,rfl,Lib.hid (by simpa using hT4.out),gW4,((((g1.trans g2).trans gd).trans g3).trans g4).x _⟩
  case round =>
   obtain ⟨i,hi,rfl,hT,hg,hgS⟩:=hrel;have hMl:((T.G.take i).map (Bz p (T.now + dd)) ++ T.G.drop i).length = T.G.length:=by simp;omega
   have hrow:=hT.out.o;dsimp only [TM.row] at hrow;rw [hMl] at hrow;have y1:=hrow.cell (i:=1) (v:=.slice T.ag T.G.length T.cg) rfl;have y3:=hrow.cell (i:=3) (v:=.int .i64 T.now) rfl;replace hrow:=zH hrow;by_cases hlt:i < T.G.length
   ·obtain ⟨x,hx⟩:=Ac T.G i hlt;have hxM:=JG (p:=p) (m:=T.now + dd) hx;obtain ⟨gb,hag⟩:∃ gb,T.ag = some ⟨gb,0,none⟩:=by
     rcases hT.out.t.g.2 with ⟨h1,h2⟩ | ⟨gb,cap,cur,h1,_⟩
     ·rw [show (TM.mk T.N T.an T.cn ((T.G.take i).map (Bz p (T.now + dd)) ++ T.G.drop i) T.ag T.cg T.last T.now).G.length = T.G.length from hMl] at h2;omega
     ·injection h1 with h1;exact ⟨gb,h1⟩
    obtain ⟨b3,off3,e3,hbl3,-,c0,c1,c2,c3,c4⟩:=CF hT.out.t.at.g hxM;dsimp only at e3;rw [hag] at e3 y1;cases e3
    simp only [Nat.zero_add] at c0 c1 c2 c3 c4;have hO:=hT.out.t.g;dsimp only at hO;rw [hag] at hO;have hgt:gb ≠ tb:=fun e => Aj hO hT.out.o (by decide) (by rw [e];rfl)
    have ff:∀ o,wr.frozen? ⟨gb,o,none⟩ = false:=fun o => by
     rcases hO.2 with ⟨h1,_⟩ | ⟨g',cap,cur,h1,_,hh,_⟩
     ·cases h1
     ·injection h1 with h1 _ _;cases h1;simp [World.frozen?,hh]
    have ti:(i:Int) < T.G.length:=by omega
    have hst:=Io (p:=p) (m:=T.now + dd) hx;refine Dn ?_ hx hxM hag hO hst hMl;clear hx hxM hag hO hst hMl;intro hx hxM hag hO hst hMl;obtain ⟨wo,rfl⟩:∃ wo:World,wo = wr:=⟨_,rfl⟩
    by_cases hp:x.par = p
    ·have tp:(x.par == p) = true:=by simpa using hp
     have hsx:Bz p (T.now + dd) x = ⟨x.par,x.srv,max x.till (T.now + dd)⟩:=by unfold Bz;rw [if_pos hp]
     replace hp:=zH hp;replace hsx:=zH hsx;go_upto_region 8 with fail
     have hwr:IntKind.i64.wrap (T.now + (dd:Int)) = T.now + dd:=by rw [IntKind.wrap_i64];omega
     refine CR 14 (fun w' => w'.cell? ⟨gb,i * 5 + 4,none⟩ = some (.int .i64 x.till)∧w'.cell? ⟨tb,3,none⟩ = some (.int .i64 T.now)) (by kernel_rfl) ?_;have hS0:(fun w' => w'.cell? ⟨gb,i * 5 + 4,none⟩ = some (.int .i64 x.till)∧w'.cell? ⟨tb,3,none⟩ = some (.int .i64 T.now)) wo.drew:=by (dsimp only;simp (maxDischargeDepth:=8) [go_sem, *])
     refine Ad (i:=0) (v:=?v0) rfl (by kernel_rfl) (by kernel_rfl) (by kernel_rfl) (by kernel_rfl) (fun _ _ _ h => h) (by rfl) ?y0 hS0 ?r0;case y0 => (intro w hSw;(try dsimp only at hSw);go_simp;try with_reducible rfl)
     try simp only [Act.put,List.setIfInBounds_toArray]
     refine Ad (i:=1) (v:=?v1) rfl (by kernel_rfl) (by kernel_rfl) (by kernel_rfl) (by kernel_rfl) (fun _ _ _ h => h) (by rfl) ?y1 hS0 ?r1;case y1 => (intro w hSw;(try dsimp only at hSw);go_simp;try with_reducible rfl)
     try simp only [Act.put]
     refine Ad (i:=2) (v:=?v2) rfl (by kernel_rfl) (by kernel_rfl) (by kernel_rfl) (by kernel_rfl) (fun _ _ _ h => h) (by rfl) ?y2 hS0 ?r2;case y2 => (intro w hSw;(try dsimp only at hSw);go_simp;try with_reducible rfl)
     try simp only [Act.put]
     refine Ad (i:=3) (v:=?v3) rfl (by kernel_rfl) (by kernel_rfl) (by kernel_rfl) (by kernel_rfl) (fun _ _ _ h => h) (by rfl) ?y3 hS0 ?r3;case y3 => (intro w hSw;(try dsimp only at hSw);go_simp;try with_reducible rfl)
     try simp only [Act.put]
     refine Ad (i:=4) (v:=?v4) rfl (by kernel_rfl) (by kernel_rfl) (by kernel_rfl) (by kernel_rfl) (fun _ _ _ h => h) (by rfl) ?y4 hS0 ?r4;case y4 => (intro w hSw;(try dsimp only at hSw);go_simp;try with_reducible rfl)
     try simp only [Act.put]
     refine Ad (i:=5) (v:=?v5) rfl (by kernel_rfl) (by kernel_rfl) (by kernel_rfl) (by kernel_rfl) (fun _ _ _ h => h) (by rfl) ?y5 hS0 ?r5;case y5 => (intro w hSw;(try dsimp only at hSw);go_simp;try with_reducible rfl)
     try simp only [Act.put]
     refine Ad (i:=6) (v:=?v6) rfl (by kernel_rfl) (by kernel_rfl) (by kernel_rfl) (by kernel_rfl) (fun _ _ _ h => h) (by rfl) ?y6 hS0 ?r6;case y6 => (intro w hSw;(try dsimp only at hSw);go_simp;try with_reducible rfl)
     try simp only [Act.put]
     refine Ad (i:=7) (v:=?v7) rfl (by kernel_rfl) (by kernel_rfl) (by kernel_rfl) (by kernel_rfl) (fun _ _ _ h => h) (by rfl) ?y7 hS0 ?r7;case y7 => (intro w hSw;(try dsimp only at hSw);go_simp;try with_reducible rfl)
     try simp only [Act.put]
     refine Ad (i:=8) (v:=?v8) rfl (by kernel_rfl) (by kernel_rfl) (by kernel_rfl) (by kernel_rfl) (fun _ _ _ h => h) (by rfl) ?y8 hS0 ?r8;case y8 => (intro w hSw;(try dsimp only at hSw);go_simp;try with_reducible rfl)
     try simp only [Act.put]
     refine Ad (i:=9) (v:=?v9) rfl (by kernel_rfl) (by kernel_rfl) (by kernel_rfl) (by kernel_rfl) (fun _ _ _ h => h) (by rfl) ?y9 hS0 ?r9;case y9 => (intro w hSw;(try dsimp only at hSw);go_simp;try with_reducible rfl)
     try simp only [Act.put]
     refine Ad (i:=10) (v:=?v10) rfl (by kernel_rfl) (by kernel_rfl) (by kernel_rfl) (by kernel_rfl) (fun _ _ _ h => h) (by rfl) ?y10 hS0 ?r10;case y10 => (intro w hSw;(try dsimp only at hSw);go_simp;try with_reducible rfl)
     try simp only [Act.put]
     refine Ad (i:=11) (v:=?v11) rfl (by kernel_rfl) (by kernel_rfl) (by kernel_rfl) (by kernel_rfl) (fun _ _ _ h => h) (by rfl) ?y11 hS0 ?r11;case y11 => (intro w hSw;(try dsimp only at hSw);go_simp;try with_reducible rfl)
     try simp only [Act.put]
     refine AK (i:=12) (by kernel_rfl) rfl (fun K hK => ?_);go_simp;refine hK.out _ _ (fun _ => hS0) ?_;clear hK K;try simp only [Act.put,List.setIfInBounds_toArray,List.set_cons_zero,List.set_cons_succ]
     refine AK (i:=13) (by kernel_rfl) rfl (fun K hK => ?_);go_simp;refine hK.out _ _ (fun _ => hS0) ?_;clear hK K;try simp only [Act.put,List.setIfInBounds_toArray,List.set_cons_zero,List.set_cons_succ]
     clear hS0;refine AK (i:=14) (by kernel_rfl) rfl (fun K hK => ?_);go_simp;refine hK.out _ _ (fun h => absurd rfl h) ?_;clear hK K;try simp only [Act.put,List.setIfInBounds_toArray,List.set_cons_zero,List.set_cons_succ]
     refine CS (by kernel_rfl) ?_ _;refine NoPanic.normal ?_;have gx:Aw [gb] wo (wo.setCell ⟨gb,i * 5 + 4,none⟩ (.int .i64 (max x.till (T.now + dd)))).drew:=((Aw.refl _ _).set (.inl (by simp)) _).drew;have hO5:(wo.setCell ⟨gb,i * 5 + 4,none⟩ (.int .i64 (max x.till (T.now + dd)))).drew.ownsRow B 43 5 (.slice T.ag ((T.G.take (i + 1)).map (Bz p (T.now + dd)) ++ T.G.drop (i + 1)).length T.cg) ((T.G.take (i + 1)).map (Bz p (T.now + dd)) ++ T.G.drop (i + 1)).length (((T.G.take (i + 1)).map (Bz p (T.now + dd)) ++ T.G.drop (i + 1)).flatMap Gh.cells):=by
      have h1:=As (BP hO.out (i * 5 + 4) (.int .i64 (max x.till (T.now + dd)))) ((Gr.refl _).drew);rw [CW Gh.cells_len hxM.out (y:=Bz p (T.now + dd) x) (by decide) (by rw [hsx.out];rfl),hst.out] at h1;have h2:((T.G.take (i + 1)).map (Bz p (T.now + dd)) ++ T.G.drop (i + 1)).length = ((T.G.take i).map (Bz p (T.now + dd)) ++ T.G.drop i).length:=by rw [← hst.out,List.length_set]
      rw [h2,hag.out];exact h1
     have hM2:((T.G.take (i + 1)).map (Bz p (T.now + dd)) ++ T.G.drop (i + 1)).length = T.G.length:=by rw [← hst.out,List.length_set];exact hMl.out
     have hOT:Bn B (wo.setCell ⟨gb,i * 5 + 4,none⟩ (.int .i64 (max x.till (T.now + dd)))).drew tb ⟨T.N,T.an,T.cn,(T.G.take (i + 1)).map (Bz p (T.now + dd)) ++ T.G.drop (i + 1),T.ag,T.cg,T.last,T.now⟩:=by
      refine ⟨?_,hT.out.t.ghosts gx (fun k hk hm => ?_) (fun y hy ad ha ht hm => ?_) _ _ hO5 (fun y hy ad ha ht => ?_) (by rw [hM2];exact hGl),hT.out.hB,hT.out.b⟩
      ·have h1:=hT.out.o.grx gx (by simpa using hgt.symm);dsimp only [TM.row] at h1 ⊢;rw [hM2];rw [hMl.out] at h1;exact h1
      ·rw [List.mem_singleton.1 hm] at hk;exact Cg hT.out.t.n hT.out.t.g (by decide) hk (by dsimp only;rw [hag.out];rfl)
      ·have:=hT.out.t.dg y hy ad ha ht;dsimp only at this;rw [hag.out,List.mem_singleton.1 hm] at this;exact this rfl
      ·have:=hT.out.t.dg y hy ad ha ht;dsimp only at this;rw [hag.out] at this;rw [hag.out];exact this
     have gW5:Gr W0 (wo.setCell ⟨gb,i * 5 + 4,none⟩ (.int .i64 (max x.till (T.now + dd)))).drew:=gx.all hg (fun y hy => by
      rw [List.mem_singleton.1 hy];have:=(Ar hO.out gb rfl).2;omega)
     have hgS2:Aw (T.ag.map (·.block)).toList w (wo.setCell ⟨gb,i * 5 + 4,none⟩ (.int .i64 (max x.till (T.now + dd)))).drew:=hgS.trans (by rw [hag.out];exact gx);refine AZ ?_ hgS2 hOT gW5;clear hgS2 hOT gW5;intro hgS2 hOT gW5;clear hO5 gx hwr;go_wp2_with fail;go_roundw;case rel => exact ⟨i + 1,by omega,by go_num,hOT,gW5.out,hgS2.out⟩
     case measure => simp [intOf];omega
    ·have tp:(x.par == p) = false:=by simpa using hp
     have hsx:Bz p (T.now + dd) x = x:=by unfold Bz;rw [if_neg hp]
     replace hp:=zH hp;replace hsx:=zH hsx;go_wp2_with fail;go_roundw;case rel => exact ⟨i + 1,by omega,by go_num,Lib.hid (by
      have h1:=hst.out;rw [hsx.out,G4 hxM.out] at h1;rw [← h1];exact hT.out),hg,hgS⟩
     case measure => simp [intOf];omega
   ·have hin:i = T.G.length:=by omega
    have ti:¬ (i:Int) < T.G.length:=by omega
    have tib:decide ((i:Int) < T.G.length) = false:=decide_eq_false ti;replace hin:=zH hin;go_wp2_with fail;go_end0;exact ⟨rfl,_,hT.out,by rw [hdr.out,hin.out,List.take_length,List.drop_length,List.append_nil],rfl,hg,hgS⟩
def LseP (T:TM) (id:Int) (w:World) (e:Ending) (w':World):Prop:=Gr w w'∧((T.v.loose id ≠ 0∧e = .returned (.tuple #[.pointer none,.int .i64 (T.v.loose id)])) ∨ (T.v.loose id = 0∧∃ nb i x,T.an = some ⟨nb,0,none⟩∧T.N[i]? = some x∧x.e.id = id∧e = .returned (.tuple #[.pointer (some ⟨nb,i * 7,none⟩),.int .i64 0])))
theorem Pi {w:World} {B:Nat} {T:TM} (h:A5 B w T) {i:Nat} {x:Ax} (hx:T.N[i]? = some x):∃ nb,T.an = some ⟨nb,0,none⟩:=by
 rcases h.n.2 with ⟨h1,h2⟩ | ⟨g,cap,cur,h1,_⟩
 ·have:=AQ hx;omega
 ·injection h1 with h1;exact ⟨g,h1⟩
theorem F0 (T:TM) (id:Int) (w:World) (tb B:Nat) (h:Bn B w tb T) (hs:EF T.N) :
 Calls Tryz.prog 165 #[.pointer (some ⟨tb,0,none⟩),.int .i64 id] w (LseP T id w):=by
 have hix:=DO T id w h.any hs;obtain ⟨c0,c1,c2,c3⟩:=h.o.c4;obtain ⟨L,hL⟩:=zE (T.v.counted id);obtain ⟨Z,hZ⟩:=zE (T.v.loose id);refine B0 ?_ h hs hix hL;clear h hs hix hL;intro h hs hix hL;go_enter Tryz.func165,Tryz.ntmps165;go_wp2_with fail;refine hix.out.mono ?_;rintro e w1 ⟨i,b,rfl,g1,q1,q2⟩;have h1:=h.out.gr g1;clear c0 c1 c2 c3;obtain ⟨c0,c1,c2,c3⟩:=h1.o.c4;cases b with
 | false =>
  have hf:=FB (q2 rfl);have hz1:Z = 1:=by rw [hZ];unfold Ab.loose;rw [hf]
  replace hf:=zH hf;replace h1:=zH h1;clear q1 q2;replace hz1:=zH hz1;replace hZ:=zH hZ;go_wp2_with fail;go_ret2;exact ⟨g1,.inl ⟨by rw [← hZ.out,hz1.out];decide,by rw [← hZ.out,hz1.out];rfl⟩⟩
 | true =>
  obtain ⟨x,hx,hid⟩:=q1 rfl;have hf:=Dh hs.out hx hid;obtain ⟨nb,hnb⟩:=Pi h1.t hx;replace hnb:=zH hnb;have hcn:=CX T id w1 h1.any;rw [← hL.out] at hcn;have tn:(i:Int) < T.N.length:=by have:=AQ hx;omega
  have hl1:=h1.t.l1;clear q1 q2;by_cases hl:L = []
  ·have hz0:Z = 0:=by rw [hZ];unfold Ab.loose;rw [hf];dsimp only;rw [if_neg (by rw [← hL.out,hl];simp)]
   have hl0:L.length = 0:=by rw [hl];rfl
   refine Fm ?_ hf hx hid hl hz0 hZ hcn;clear hf hx hid hl hz0 hZ hcn;intro hf hx hid hl hz0 hZ hcn;go_wp2_with fail;refine hcn.out.mono ?_;rintro e w2 ⟨a3,k3,rfl,hO3,g2⟩;have p0:=(h1.gr g2).o.cell (i:=0) (v:=.slice T.an T.N.length T.cn) rfl;rw [hnb.out] at p0;replace h1:=zH h1;replace hO3:=zH hO3;clear c0 c1 c2 c3;go_wp2_with fail;go_ret2;exact ⟨g1.trans g2,.inr ⟨by rw [← hZ.out,hz0.out],nb,i,x,hnb.out,hx.out,hid.out,rfl⟩⟩
  ·have hz2:Z = 2:=by rw [hZ];unfold Ab.loose;rw [hf];dsimp only;rw [if_pos (by rw [← hL.out];exact hl)]
   have hl0:(0:Int) < L.length:=by
    cases L with
    | nil => exact absurd rfl hl
    | cons y t => simp
   refine Fm ?_ hf hx hid hl hz2 hZ hcn;clear hf hx hid hl hz2 hZ hcn;intro hf hx hid hl hz2 hZ hcn;go_wp2_with fail;refine hcn.out.mono ?_;rintro e w2 ⟨a3,k3,rfl,hO3,g2⟩;replace h1:=zH h1;replace hO3:=zH hO3;clear c0 c1 c2 c3;go_wp2_with fail;go_ret2;exact ⟨g1.trans g2,.inl ⟨by rw [← hZ.out,hz2.out];decide,by rw [← hZ.out,hz2.out];rfl⟩⟩
theorem C1 {α:Type} {k:Nat} {enc:α→List Value} {P:Program} {w:World} {ops:Array Oper} {o:Oper} {a:Act} {K:Act→World→Prop} {Q:Exit→Act→World→Prop} {E:Prop} (hgd:o.guard = none) (s x:Operand) (t:TypeId)
 (ho:o.op = .call { callee:=.builtin .append,args:=#[s,x],argTypes:=#[t,t] })
 (base:Nat) (e:TypeId) (i:TypeInfo) (z:Value) (bytes:Nat) (ht:P.underlying t = some (.slice e)) (hi:P.info? e = some i) (hz:i.zero = some z)
 (hsize:i.size = k) (hby:i.bytes = bytes) (hzs:z.cells.size = k) (hsz:0 < k)
 (hk:∀ s,(enc s).length = k) (h1:∀ s,∀ u ∈ enc s,u.oneCell' = true)
 (v:Value) (l0:List α) (hs:a.eval s = v) (hown:w.ownsRow base e k v l0.length (l0.flatMap enc))
 (B c:Nat) (y:α) (hx:a.eval x = .slice (some ⟨B,0,none⟩) 1 c) (hl:Al k enc w (some ⟨B,0,none⟩) [y])
 (h63:l0.length + 1≤maxLen) (hbytes:(l0.length + 1) * bytes≤140737488355328) (hbase:base≤w.heap.size)
 (h:∀ v' w',w'.ownsRow base e k v' (l0 ++ [y]).length ((l0 ++ [y]).flatMap enc)→w.grownBy w' v.ownBlock→(v'.ownBlock = v.ownBlock ∨ v'.ownBlock = some w.heap.size)→K (a.put o.dst v') w') :
 if Region.wanted o (yielded ops a.tmps) = true then Oper.wp P o a w K Q else E:=by
 have hw:Region.wanted o (yielded ops a.tmps) = true:=by simp [Region.wanted,hgd]
 rw [if_pos hw];obtain ⟨v',w',hr,h2,h3,-,h5⟩:=run_append_own_at (P:=P) w base t o.type e i z k bytes ht hi hz hsize hby hzs hsz v l0.length (l0.flatMap enc) hown ⟨B,0,none⟩ 1 c (enc y) (by rw [hk,Nat.one_mul]) (fun j u hu => by
  obtain ⟨b,off,hh,_,hcell⟩:=hl 0 y rfl;cases hh
  have:=hcell j u hu;unfold Addr.add;split
  ·rename_i h0;rw [h0] at this;simpa using this
  ·simpa using this) (h1 y) h63 hbytes hbase
 unfold Oper.wp execOp;simp only [ho,resolve,invoke,builtin,Sem.run_bind,Sem.run_pure,Result.andThen_ok,List.map_toArray,List.map_cons,List.map_nil,hs,hx,hr];exact h v' w' (by simpa using h2) h3 h5
theorem J7 {B:Nat} {wz w':World} {T:TM} {x:Ax} {a:Option Addr} {c:Nat} (h:A5 B wz T) (hN:w'.ownsRow B 39 7 (.slice a (T.N ++ [x]).length c) (T.N ++ [x]).length ((T.N ++ [x]).flatMap Ax.cells)) (hg:wz.grownBy w' (Value.slice T.an T.N.length T.cn).ownBlock) (hat:(Value.slice a (T.N ++ [x]).length c).ownBlock = (Value.slice T.an T.N.length T.cn).ownBlock ∨ (Value.slice a (T.N ++ [x]).length c).ownBlock = some wz.heap.size) (hx:x.e.tasks = []) (hxo:x.ok (fun b => B≤b) w') (hl:T.N.length + 1≤1000000) (l n:Int):A5 B w' ⟨T.N ++ [x],a,c,T.G,T.ag,T.cg,l,n⟩:=by
 have gx:Aw (Value.slice T.an T.N.length T.cn).ownBlock.toList wz w':=⟨hg.os,hg.tape,hg.output,hg.size,fun k hk hn => hg.block k hk (fun e => hn (by rw [← e];simp))⟩
 have hin:∀ k,k ∈ (Value.slice T.an T.N.length T.cn).ownBlock.toList→(Value.slice T.an T.N.length T.cn).ownBlock = some k:=fun k hk => by simpa using hk
 refine ⟨hN,BW h.g gx (fun k hk hm => Cg h.n h.g (by decide) (hin k hm) hk),fun y hy => ?_,fun y hy ad ha ht => ?_,fun y hy ad ha ht => ?_,fun y hy ad ha ht o => ?_,by simp;omega,h.l2⟩
 ·rcases List.mem_append.1 hy with hy | hy
  ·exact (h.k y hy).but gx (fun ad ha ht hm => h.d y hy ad ha ht (hin _ hm))
  ·rw [List.mem_singleton.1 hy];exact hxo
 ·rcases List.mem_append.1 hy with hy | hy
  ·rcases hat with h1 | h1
   ·show (Value.slice a (T.N ++ [x]).length c).ownBlock ≠ _;rw [h1];exact h.d y hy ad ha ht
   ·show (Value.slice a (T.N ++ [x]).length c).ownBlock ≠ _;rw [h1];intro e;have:=Option.some.inj e;have:=(h.k y hy).1.1.lt ha ht;omega
  ·rw [List.mem_singleton.1 hy] at ht;exact absurd hx ht
 ·rcases List.mem_append.1 hy with hy | hy
  ·exact h.dg y hy ad ha ht
  ·rw [List.mem_singleton.1 hy] at ht;exact absurd hx ht
 ·rcases List.mem_append.1 hy with hy | hy
  ·rw [gx.frozen ((h.k y hy).1.1.lt ha ht) (fun hm => h.d y hy ad ha ht (hin _ hm))];exact h.f y hy ad ha ht o
  ·rw [List.mem_singleton.1 hy] at ht;exact absurd hx ht
theorem NG {N:List Ax} {x:Ax} (hs:EF N) (h:∀ y ∈ N,y.e.id < x.e.id):EF (N ++ [x]):=by
 intro i j y z hi hj hij;have hjl:=AQ hj;rw [List.length_append] at hjl;have h1:i < N.length:=by simp at hjl;omega
 rw [List.getElem?_append_left h1] at hi;by_cases h2:j < N.length
 ·rw [List.getElem?_append_left h2] at hj;exact hs i j y z hi hj hij
 ·rw [List.getElem?_append_right (by omega)] at hj;have h3:j - N.length = 0:=by simp at hjl;omega
  rw [h3] at hj;obtain rfl:x = z:=by simpa using hj
  exact h y (List.mem_of_getElem? hi)
end Go.Proofs.YtdfelohjdkcpkaaGreatDoor
