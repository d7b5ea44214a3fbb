/- A tree as numbers: plain laws. -/
import Derived.Test.YtdfelohjdkcpkaaGreatDoorKK27
import Derived.ProofKit
import Derived.OpenShut
import Derived.Deep.DeepHandedRow
import Derived.Deep.DeepWitnessRowRef
import Derived.LaidLaws
import Derived.LaidMore
import Derived.MakeChecks
import Derived.Deep.Slices
import Derived.Deep.Fields
import Derived.Lib.SmallJoins
set_option maxRecDepth 100000
set_option maxHeartbeats 3200000
namespace Go.Proofs.YtdfelohjdkcpkaaGreatDoor
open Go.RowKit
def Pb (x:Nd):List Int:=[x.id,x.par,x.srv.k,x.srv.q,x.srv.t,x.pol,(x.tasks.length:Int)]
def KM (x:Nd):List Int:=Pb x ++ x.tasks.flatMap B1
def H6 (g:Gh):List Int:=[g.par,g.srv.k,g.srv.q,g.srv.t,g.till]
def Ji (t:Ab):List Int:=[t.last,t.now,(t.nodes.length:Int)] ++ t.nodes.flatMap KM
def BF (t:Ab):List Int:=Ji t ++ [(t.ghosts.length:Int)] ++ t.ghosts.flatMap H6
structure KL (t:Ab):Prop where
 nd:∀ x ∈ t.nodes,0≤x.pol∧x.pol≤2∧x.srv.leg = true∧x.tasks.length≤8∧∀ k ∈ x.tasks,k.leg = true
 gh:∀ g ∈ t.ghosts,0≤g.par∧g.srv.leg = true∧0≤g.till∧g.till≤1099511631872
theorem HB (s:Ao) (l:List Ao):Bo s l≤4096:=by
 unfold Bo;cases h:(List.range 4096).find? fun (k:Nat) => decide (BN l ((k:Int) + 1)≤Au (Ak s) ((k:Int) + 1)) with
 | none => exact Nat.le_refl _
 | some n =>
  have:=List.mem_range.1 (List.mem_of_find?_eq_some h);show n + 1≤4096;omega
theorem KL.drained {t:Ab} (h:KL t) (h0:0≤t.now) (h1:t.now≤1099511627776) (p:Int):KL (t.drained p):=by
 unfold Ab.drained;dsimp only;split
 ·refine ⟨h.nd,fun g hg => ?_⟩;obtain ⟨y,hy,rfl⟩:=List.mem_map.1 hg;obtain ⟨a,b,c,d⟩:=h.gh y hy;have:=HB ((t.server p).getD AU) (t.counted p);split
  ·refine ⟨a,b,?_,?_⟩
   ·show 0≤max y.till _;omega
   ·show max y.till _≤_;omega
  ·exact ⟨a,b,c,d⟩
 ·exact h
theorem KL.tick {t:Ab} (h:KL t) (a:Int):KL (t.tick a):=⟨h.nd,fun g hg => h.gh g (List.mem_filter.1 hg).1⟩
theorem KL.step {n:Nat} {t:Ab} (h:KL t) (hS:Bq n t) (o:A8):KL (t.apply o).1:=by
 rcases EC t o with ⟨e,_⟩ | ⟨a0,a1,hc⟩
 ·rw [e];exact h
 have u:=hS.tick (a:=o.at_) a1;have v:=h.tick o.at_;obtain ⟨t2,ht2⟩:=zE (t.tick o.at_);rw [← ht2] at u v hc;rcases hc with ⟨_,e⟩ | ⟨_,e⟩ | ⟨_,e⟩ | ⟨_,e⟩ <;> rw [e]
 ·rcases Ea t2 o with ⟨c,_,e2⟩ | ⟨s,hl,hs,_,_,_,_,_,e2⟩ <;> rw [e2]
  ·exact v
  ·show KL (Ab.drained _ o.id);refine KL.drained ?x ?y ?z _;case y => exact u.n0
   case z => exact u.n1
   refine ⟨fun x hx => ?_,v.gh⟩;rcases List.mem_append.1 (show x ∈ t2.nodes ++ [_] from hx) with hx | hx
   ·exact v.nd x hx
   ·rw [List.mem_singleton.1 hx];exact ⟨Int.le_refl _,by show (0:Int)≤2;omega,hl,Nat.zero_le _,fun _ hk => by cases hk⟩
 ·rcases D3 t2 o with ⟨c,_,e2⟩ | ⟨x,hl,hf,_,_,_,_,e2⟩ <;> rw [e2]
  ·exact v
  ·show KL (Ab.drained _ x.par);have hx:=(BR hf).1;refine KL.drained ?x2 ?y2 ?z2 _;case y2 => exact u.n0
   case z2 => exact u.n1
   refine ⟨fun y hy => ?_,fun g hg => ?_⟩
   ·obtain ⟨z,hz,⟨_,e⟩ | ⟨_,e⟩⟩:=CL hy
    ·rw [e];exact v.nd z hz
    ·rw [e];obtain ⟨b1,b2,_,b4,b5⟩:=v.nd z hz;exact ⟨b1,b2,hl,b4,b5⟩
   ·rcases List.mem_append.1 (show g ∈ t2.ghosts ++ [_] from hg) with hg | hg
    ·exact v.gh g hg
    ·rw [List.mem_singleton.1 hg];exact ⟨(u.lw x hx).1,(v.nd x hx).2.2.1,Int.le_refl _,by show (0:Int)≤_;omega⟩
 ·rcases D4 t2 o with ⟨c,_,e2⟩ | ⟨x,t1,hf,_,e3,e2⟩ <;> rw [e2]
  ·exact v
  ·have hx:=(BR hf).1;refine ⟨fun y hy => ?_,fun g hg => ?_⟩
   ·rw [e3] at hy;exact v.nd y ((List.mem_filter.1 hy).1)
   ·rcases List.mem_append.1 (show g ∈ t2.ghosts ++ [_] from hg) with hg | hg
    ·exact v.gh g hg
    ·rw [List.mem_singleton.1 hg];have h0:=u.n0;have h1:=u.n1;have hd:=HB ((t1.server x.par).getD AU) (t1.counted x.par);refine ⟨(u.lw x hx).1,(v.nd x hx).2.2.1,?_,?_⟩
     ·show 0≤ite _ _ _;split <;> omega
     ·show ite _ _ _≤_;split <;> omega
 ·rcases Fi t2 o with ⟨c,_,e2⟩ | ⟨x,hg,hf,_,_,_,e2⟩ <;> rw [e2]
  ·exact v
  ·refine ⟨fun y hy => ?_,v.gh⟩;obtain ⟨z,hz,⟨_,e⟩ | ⟨_,e⟩⟩:=CL hy
   ·rw [e];exact v.nd z hz
   ·rw [e];unfold AW at hg;rw [Bool.and_eq_true,Bool.and_eq_true,decide_eq_true_eq,decide_eq_true_eq] at hg;obtain ⟨⟨g1,g2⟩,g3⟩:=hg;exact ⟨by show 0≤o.pol;omega,by show o.pol≤2;omega,(v.nd z hz).2.2.1,g2.2,fun k hk => List.all_eq_true.1 g3 k hk⟩
theorem N3 (l:List A8):KL (Hn l):=by
 have key:∀ (l:List A8) (n:Nat) (t:Ab),Bq n t→KL t→KL (l.foldl (fun t o => (t.apply o).1) t):=by
  intro l;induction l with
  | nil => intro n t _ h;exact h
  | cons o r ih => intro n t hS h;exact ih (n + 1) _ (hS.step o) (h.step hS o)
 exact key l 0 _ Bq.zero ⟨by simp,by simp⟩
def CY (l:List Int):Prop:=∀ n ∈ l,0≤n∧n≤1099511631872
theorem CY.app {a b:List Int} (h:CY a) (g:CY b):CY (a ++ b):=fun n hn => (List.mem_append.1 hn).elim (h n) (g n)
theorem FN:∀ {l:List Int},CY l→(AM l).length≤10 * l.length
 | [],_ => Nat.le_refl _
 | n :: l,h => by
  have h1:=FN (l:=l) fun m hm => h m (List.mem_cons_of_mem _ hm)
  obtain ⟨h2,h3⟩:=h n List.mem_cons_self;have h4:=EP (n:=n.toNat) (by omega);have h5:AM (n :: l) = BX n.toNat ++ AM l:=rfl;rw [h5,List.length_append,List.length_cons];omega
theorem OW {t:AA} (h:t.leg = true):CY (B1 t):=fun n hn => by
 have:=(AA.leg_iff t).1 h;simp [B1] at hn;omega
theorem Jl {α:Type} (f:α→List Int) (k:Nat):∀ l:List α,(∀ x ∈ l,(f x).length≤k)→(l.flatMap f).length≤k * l.length
 | [],_ => Nat.le_refl _
 | x :: l,h => by
  have h1:=Jl f k l fun y hy => h y (List.mem_cons_of_mem _ hy)
  have h2:=h x List.mem_cons_self;rw [List.flatMap_cons,List.length_append,List.length_cons,Nat.mul_add,Nat.mul_one];omega
theorem N4 (x:Nd):(KM x).length = 7 + x.tasks.length * 4:=by
 unfold KM;rw [List.length_append,DD];rfl
theorem Mg {n:Nat} {t:Ab} (hS:Bq n t) (h:KL t) (hg:∀ g ∈ t.ghosts,g.par≤t.last) (hn:n≤1000):CY (BF t)∧(BF t).length≤4 + 44 * n:=by
 have s1:=hS.l0;have s2:=hS.l1;have s3:=hS.n0;have s4:=hS.n1;have s5:=hS.nl;have s6:=hS.gl;have hw:CY (t.nodes.flatMap KM):=fun m hm => by
  obtain ⟨x,hx,hm⟩:=List.mem_flatMap.1 hm;obtain ⟨a1,a2,a3,a4,a5⟩:=h.nd x hx;obtain ⟨b1,b2,b3⟩:=hS.lw x hx;have a6:=(Ao.leg_iff _).1 a3;rcases List.mem_append.1 hm with hm | hm
  ·simp [Pb] at hm;omega
  ·obtain ⟨k,hk,hm⟩:=List.mem_flatMap.1 hm;exact OW (a5 k hk) m hm
 have gw:CY (t.ghosts.flatMap H6):=fun m hm => by
  obtain ⟨x,hx,hm⟩:=List.mem_flatMap.1 hm;obtain ⟨a1,a2,a3,a4⟩:=h.gh x hx;have a5:=hg x hx;have a6:=(Ao.leg_iff _).1 a2;simp [H6] at hm;omega
 have l1:=Jl KM 39 t.nodes fun x hx => by
  have:=(h.nd x hx).2.2.2.1;rw [N4];omega
 have l2:=Jl H6 5 t.ghosts fun x hx => Nat.le_refl _
 refine ⟨CY.app (CY.app (CY.app (fun m hm => ?_) hw) (fun m hm => ?_)) gw,?_⟩
 ·simp at hm;omega
 ·simp at hm;omega
 ·unfold BF Ji;rw [List.length_append,List.length_append,List.length_append];show 3 + _ + 1 + _≤_;omega
theorem GX (L:List At) (h:L.length≤1000):CY (BF (Cp L))∧(BF (Cp L)).length≤4 + 44 * L.length:=Mg (Fa L) (N3 _) (Kr _).gp h
end Go.Proofs.YtdfelohjdkcpkaaGreatDoor
namespace Go.Proofs.YtdfelohjdkcpkaaGreatDoor
open Go.ChangeShapes Go.WideShapes Go.ChangeAt Go.RowKit Go.Deep
theorem own:ownKnob Tryz.prog.godebug = none:=by kernel_rfl
theorem OX:laidOutB Tryz.prog = true:=by kernel_rfl
theorem star : "*" ++ "errors.errorString" = "*errors.errorString" := by decide
theorem Pf (u : TypeId) (h : Tryz.prog.typeName? 3 u = some "*errors.errorString") : u = 384 :=
 typeName_ptr_named (nm := "errors.errorString") (by rw [star]; kernel_rfl) (by kernel_rfl) (by decide) u (by rw [star]; exact h)
theorem Ov:Tryz.prog.cellsOf 400 = 1:=by kernel_rfl
theorem Ou:Tryz.prog.cellsOf 9 = 1:=by kernel_rfl
def OM (x : Nat × String × List UInt8) : String × DataW Unit := (x.2.1, .iface "*errors.errorString" (.ptr (.agg [.lit (.string x.2.2)])))
theorem KX {W:World} (L:List (Nat × String × List UInt8)) (hok:(L.all fun x => Tryz.prog.globalNamed x.2.1 == some x.1 && (Tryz.prog.globals[x.1]?).map (·.type) == some 74) = true):∀ ps,DataW.LaidVars Tryz.prog W (L.map OM) ps →
 (∀ b off,MemPlace.cell b off ∈ ps→(∃ c t,W.heap[b]? = some (.cells c t (0,0)))∧∀ u v,W.cell? ⟨b,off,none⟩ = some (.iface u v)→Value.okWide Tryz.prog W .any 0 u v) →
 ps.Nodup→∃ E:Nat→Addr,(∀ x ∈ L,W.cell? ⟨x.1,0,none⟩ = some (Hy E x.1)∧MemPlace.cell (E x.1).block (E x.1).off ∈ ps∧(E x.1).spot = none∧MemPlace.cell x.1 0 ∈ ps)∧∀ x ∈ L,∀ y ∈ L,x.1 ≠ y.1→E x.1 ≠ E y.1:=by
 induction L with
 | nil => intro ps _ _ _;exact ⟨fun _ => ⟨0,0,none⟩,(fun _ h => by cases h),(fun _ h => by cases h)⟩
 | cons x r ih =>
  intro ps h hrows hnd;simp only [List.all_cons,Bool.and_eq_true] at hok;obtain ⟨hx,hr⟩:=hok;simp only [beq_iff_eq] at hx;obtain ⟨g0,t0,cs0,f0,p0,q0,hg0,ht0,hv0,hd0,hq,e0⟩:=h;obtain rfl:=Option.some.inj (hx.1.symm.trans hg0);obtain rfl:=Option.some.inj (hx.2.symm.trans ht0);obtain ⟨l0⟩:=cs0;have ok0:∀ u v,l0 = [.iface u v]→Value.okWide Tryz.prog W .any 0 u v:=fun u v e => by
   subst e;subst e0;exact (hrows x.1 0 (by simp [MemPlace.row])).2 u v (by simpa using World.var?_cell hg0 hv0 0)
  obtain ⟨a0,s0,rfl,hc0,hs0,hz0,rfl⟩:=errorString_of_trod Tryz.underlying74 Pf Tryz.underlying384 Tryz.underlying400 rfl rfl Tryz.underlying9 Ov Ou hd0 ok0;have hspot:a0.spot = none:=by
   unfold World.cell? at hc0;split at hc0
   ·split at hc0
    ·cases hc0
    ·rename_i hh;simpa using hh
   ·cases hc0
  subst e0;have m0:MemPlace.cell a0.block a0.off ∈ MemPlace.row ⟨x.1,0,none⟩ 1 ++ MemPlace.row a0 1 ++ q0:=by simp [MemPlace.row]
  have m1:MemPlace.cell x.1 0 ∈ MemPlace.row ⟨x.1,0,none⟩ 1 ++ MemPlace.row a0 1 ++ q0:=by simp [MemPlace.row]
  have sub:∀ p ∈ q0,p ∈ MemPlace.row ⟨x.1,0,none⟩ 1 ++ MemPlace.row a0 1 ++ q0:=fun p hp => List.mem_append_right _ hp
  have ndq:q0.Nodup:=List.Nodup.sublist (List.sublist_append_right _ _) hnd;obtain ⟨E,hE,hne⟩:=ih hr q0 hq (fun b off hm => hrows b off (sub _ hm)) ndq;have notin:∀ y ∈ r,E y.1 ≠ a0:=fun y hy e => by
   have hm:=(hE y hy).2.1;rw [e] at hm;rw [List.append_assoc,List.nodup_append,List.nodup_append] at hnd;exact hnd.2.1.2.2 _ (by simp [MemPlace.row]) _ hm rfl
  refine ⟨fun g => if g = x.1 then a0 else E g,fun y hy => ?_,fun y hy z hz hyz => ?_⟩
  ·by_cases hyx:y.1 = x.1
   ·simp only [hyx,if_true,Hy];exact ⟨by simpa using World.var?_cell hg0 hv0 0,m0,hspot,m1⟩
   ·have hyr:y ∈ r:=by
     rcases List.mem_cons.1 hy with rfl | h
     ·exact absurd rfl hyx
     ·exact h
    have:=hE y hyr;simp only [hyx,if_false,Hy];exact ⟨this.1,sub _ this.2.1,this.2.2.1,sub _ this.2.2.2⟩
  ·have inr:∀ y ∈ x :: r,y.1 ≠ x.1→y ∈ r:=fun y hy hyx => by
    rcases List.mem_cons.1 hy with rfl | h
    ·exact absurd rfl hyx
    ·exact h
   by_cases hyx:y.1 = x.1
   ·have hzx:z.1 ≠ x.1:=fun e => hyz (hyx.trans e.symm)
    simp only [hyx,hzx,if_true,if_false];exact fun e => notin z (inr z hz hzx) e.symm
   ·by_cases hzx:z.1 = x.1
    ·simp only [hyx,hzx,if_true,if_false];exact notin y (inr y hy hyx)
    ·simp only [hyx,hzx,if_false];exact hne y (inr y hy hyx) z (inr z hz hzx) hyz
theorem Ku {W:World} (L:List (Nat × String × List UInt8)) (hok:(L.all fun x => Tryz.prog.globalNamed x.2.1 == some x.1 && (Tryz.prog.globals[x.1]?).map (·.type) == some 74) = true) (hpl:((L.map OM).all fun x => x.2.handleName?.isNone) = true) (h:laidMetH Tryz.prog (L.map OM) W) :
 ∃ E,CK (L.map (·.1)) E W:=by
 rw [MakeChecks.laidMetH_plain _ _ _ hpl] at h;obtain ⟨ps,hv,hnd,hrows⟩:=h;obtain ⟨E,hE,hne⟩:=KX L hok ps hv hrows hnd;have get:∀ g,g ∈ L.map (·.1)→∃ x ∈ L,x.1 = g:=fun g hg => by simpa using hg
 have lt_of:∀ b off,MemPlace.cell b off ∈ ps→b < W.heap.size:=fun b off hm => by
  obtain ⟨c,t,e⟩:=(hrows b off hm).1;exact (Array.getElem?_eq_some_iff.1 e).1
 refine ⟨E,⟨fun g hg => ?_,fun g hg => ?_,fun g hg => ?_,fun g hg => ?_,fun g k hg hk hn => ?_⟩⟩
 ·obtain ⟨x,hx,rfl⟩:=get g hg;exact lt_of _ _ (hE x hx).2.2.2
 ·obtain ⟨x,hx,rfl⟩:=get g hg;exact lt_of _ _ (hE x hx).2.1
 ·obtain ⟨x,hx,rfl⟩:=get g hg;exact (hE x hx).1
 ·obtain ⟨x,hx,rfl⟩:=get g hg;exact (hrows _ _ (hE x hx).2.1).1
 ·obtain ⟨x,hx,rfl⟩:=get g hg;obtain ⟨y,hy,rfl⟩:=get k hk;exact hne x hx y hy hn
section
variable {H:Type} {enc:TypeId × Value→H} {P:Program} {w:World} {base:Nat} {spare:Nat→Bool} {held:Bool}
end
end Go.Proofs.YtdfelohjdkcpkaaGreatDoor
namespace Go.Proofs.YtdfelohjdkcpkaaGreatDoor
open Go.ChangeShapes Go.WideShapes Go.ChangeAt Go.RowKit Go.Deep Go.Joins
def KN (x:Int):Prop:=-9223372036854775808≤x∧x≤9223372036854775807
theorem AO {x:Int} (h:(Lit.int .i64 x).wf = true):KN x:=by
 simp [Lit.wf,IntKind.min,IntKind.max,IntKind.signed,IntKind.bits] at h;exact ⟨by omega,by omega⟩
theorem L7 {W:World} {a:Addr} {v:Value} (h:W.cell? a = some v):a.block < W.heap.size∧a = ⟨a.block,a.off,none⟩:=by
 unfold World.cell? at h;split at h
 ·rename_i c t f hb;refine ⟨(Array.getElem?_eq_some_iff.1 hb).1,?_⟩;split at h
  ·cases h
  ·rename_i hs;obtain ⟨b,o,s⟩:=a;simp at hs;simp [hs]
 ·cases h
theorem Ny {W:World} {a:Addr} {n:Nat} {v:Value} (h:W.cell? (a.add (0 * n)) = some v):∃ b o,a = ⟨b,o,none⟩:=by
 rw [Nat.zero_mul] at h;have:a.add 0 = a:=by simp [Addr.add]
 rw [this] at h;exact ⟨_,_,(L7 h).2⟩
theorem OC (b o n:Nat):(⟨b,o,none⟩:Addr).add n = ⟨b,o + n,none⟩:=by
 unfold Addr.add;by_cases h:n = 0 <;> simp [h]
theorem Pr {α:Type} {n:Nat} {p:Nat→α→Prop} (h:∀ i,i < n→∃ s,p i s):∃ l:List α,l.length = n∧∀ i s,l[i]? = some s→p i s:=by
 induction n with
 | zero => exact ⟨[],rfl,fun i s h => by simp at h⟩
 | succ n ih =>
  obtain ⟨l,hl,hp⟩:=ih (fun i hi => h i (by omega));obtain ⟨s,hs⟩:=h n (by omega);refine ⟨l ++ [s],by simp [hl],fun i x hx => ?_⟩;by_cases hi:i < n
  ·rw [List.getElem?_append_left (by omega)] at hx;exact hp i x hx
  ·rw [List.getElem?_append_right (by omega)] at hx;have h0:i - l.length = 0:=by
    have:=AQ hx;simpa using this
   rw [h0] at hx;obtain rfl:s = x:=by simpa using hx
   obtain rfl:i = n:=by omega
   exact hs
section
variable {H:Type} {enc:TypeId × Value→H} {W:World}
theorem Em {e:TypeId}:∀ (l:List (DataW H)) (d:DataW H),d ∈ l→(DataW.weightsAll Tryz.prog e l).all (·≤reachBytes) = true→(d.weights Tryz.prog e).all (·≤reachBytes) = true
 | x :: r,d,hd,h => by
  simp only [DataW.weightsAll,List.all_append,Bool.and_eq_true] at h;rcases List.mem_cons.1 hd with rfl | hd
  ·exact h.1
  ·exact Em r d hd h.2
theorem D5 {α:Type} {k bytes:Nat} {code:α→List Value} {Good Size:α→Prop} {t e:TypeId} (ht:Tryz.prog.underlying t = some (.slice e)) (hk:Tryz.prog.cellsOf e = k) (hb:Tryz.prog.bytesOf e = bytes) (hk0:0 < k) (hlen:∀ s,(code s).length = k)
 (hdec:∀ n cs y,DataW.trod enc Tryz.prog W 0 (fun _ => true) true n e cs = some y→∃ s,cs = code s∧Good s∧((y.1.weights Tryz.prog e).all (·≤reachBytes) = true→Size s))
 {fuel:Nat} {cs:List Value} {x:DataW H × List MemPlace} (h:DataW.trod enc Tryz.prog W 0 (fun _ => true) true fuel t cs = some x) :
 ∃ (a:Option Addr) (c:Nat) (l:List α),cs = [.slice a l.length c]∧AC Any k code W a l∧(a = none→c = 0)∧l.length≤c∧c≤maxLen∧(∀ s ∈ l,Good s)∧((x.1.weights Tryz.prog t).all (·≤reachBytes) = true→l.length * bytes≤reachBytes∧∀ s ∈ l,Size s):=by
 rcases open_slice ht h with ⟨rfl,_⟩ | ⟨a,len,cap,m,n,D,Pl,rfl,_,hl,hm,hmm,hx,hi⟩
 ·exact ⟨none,0,[],rfl,AC.nil _ _ _ _ _,(fun _ => rfl),Nat.le_refl _,Nat.zero_le _,(fun _ h => by cases h),fun _ => ⟨by simp,fun _ h => by cases h⟩⟩
 ·simp only [if_true] at hmm;subst hmm;rw [hk] at hi;have each:∀ i,i < len→∃ s:α,(∀ j u,(code s)[j]? = some u→W.cell? (a.add (i * k + j)) = some u)∧Good s∧(((D i).weights Tryz.prog e).all (·≤reachBytes) = true→Size s):=fun i h => by
   obtain ⟨cs',hc,htr⟩:=hi i (by omega);obtain ⟨s,rfl,hg,hz⟩:=hdec _ _ _ htr;obtain ⟨_,_,hat⟩:=World.cells?_some hc;refine ⟨s,fun j u hu => ?_,hg,hz⟩;have hj:j < k:=by rw [← hlen s];exact (List.getElem?_eq_some_iff.1 hu).1
   rw [← hu,← hat j hj];congr 1;unfold Addr.add;by_cases h1:i * k = 0
   ·by_cases h2:j = 0 <;> simp [h1,h2]
   ·by_cases h2:j = 0
    ·simp [h1,h2]
    ·have h3:¬ (i * k + j = 0):=by omega
     simp [h1,h2,Nat.add_assoc]
  obtain ⟨l,hll,hp⟩:=Pr each;refine ⟨some a,_,l,by rw [hll],⟨fun i s hs => ?_,fun _ _ _ => trivial⟩,(fun h => by cases h),by omega,hm,fun s hs => ?_,fun hw => ?_⟩
  ·have hi0:i < len:=by have:=AQ hs;omega
   obtain ⟨hc,_⟩:=hp i s hs;have hne:code s ≠ []:=fun e => by have:=hlen s;rw [e] at this;simp at this;omega
   obtain ⟨s0,hs0⟩:=Ac l 0 (by omega);obtain ⟨hc0,_⟩:=hp 0 s0 hs0;have hlen0:=hlen s0;obtain ⟨u0,hu0⟩:∃ u,(code s0)[0]? = some u:=⟨(code s0)[0]'(by omega),List.getElem?_eq_getElem _⟩
   obtain ⟨b,o,rfl⟩:=Ny (n:=0) (by simpa using hc0 0 u0 hu0);have hbl:b < W.heap.size:=by have:=(L7 (hc0 0 u0 hu0)).1;simpa [OC] using this
   refine ⟨b,o,rfl,hbl,fun j u hu => ?_⟩;have:=hc j u hu;rw [OC] at this;rw [Nat.add_assoc];exact this
  ·obtain ⟨i,hi'⟩:=List.mem_iff_getElem?.1 hs;exact (hp i s hi').2.1
  ·subst hx;simp only [DataW.weights,ht,List.all_cons,List.all_append,Bool.and_eq_true,List.length_map,List.length_range,hb] at hw;refine ⟨Nat.le_trans (Nat.mul_le_mul_right _ (by omega)) (of_decide_eq_true hw.1),fun s hs => ?_⟩;obtain ⟨i,hi'⟩:=List.mem_iff_getElem?.1 hs;have hi0:i < len:=by have:=AQ hi';omega
   refine (hp i s hi').2.2 (Em _ _ ?_ hw.2.1);exact List.mem_map.2 ⟨i,List.mem_range.2 hi0,rfl⟩
def TskI (s:AA):Prop:=KN s.c∧KN s.p∧KN s.d∧KN s.s
theorem Gb (n:Nat) (cs:List Value) (y:DataW H × List MemPlace) (h:DataW.trod enc Tryz.prog W 0 (fun _ => true) true n 41 cs = some y):∃ s:AA,cs = s.cells∧TskI s∧((y.1.weights Tryz.prog 41).all (·≤reachBytes) = true→True):=by
 obtain ⟨y0,y1,y2,y3,m,_,hlen,t0,t1,t2,t3⟩:=trod_struct4 Tryz.underlying41 h;have hc:Tryz.prog.cellsOf 41 = 4:=by kernel_rfl
 have hci:Tryz.prog.cellsOf 3 = 1:=by kernel_rfl
 rw [hc] at hlen
 match cs,hlen with
 | [c0,c1,c2,c3],_ =>
  simp only [hci] at t0 t1 t2 t3;obtain ⟨k,e0,_,w0⟩:=DataW.trod_int Tryz.underlying3 t0;obtain ⟨q,e1,_,w1⟩:=DataW.trod_int Tryz.underlying3 t1;obtain ⟨t,e2,_,w2⟩:=DataW.trod_int Tryz.underlying3 t2;obtain ⟨u,e3,_,w3⟩:=DataW.trod_int Tryz.underlying3 t3;simp at e0 e1 e2 e3;subst e0 e1 e2 e3;exact ⟨⟨k,q,t,u⟩,rfl,⟨AO w0,AO w1,AO w2,AO w3⟩,fun _ => trivial⟩
def Pv (e:Du):Prop:=KN e.cl∧KN e.nu∧KN e.kd∧KN e.id∧KN e.srv.k∧KN e.srv.q∧KN e.srv.t∧KN e.po∧KN e.at_∧∀ s ∈ e.tasks,TskI s
def O9 (W:World) (x:At):Prop:=Pv x.e∧AC Any 4 AA.cells W x.a x.e.tasks∧(x.a = none→x.c = 0)∧x.e.tasks.length≤x.c∧x.c≤maxLen
theorem O9.ok {W:World} {x:At} (h:O9 W x) (hs:x.e.tasks.length * 32≤reachBytes):x.ok Any W:=⟨h.2.1,h.2.2.1,h.2.2.2.1,h.2.2.2.2,by unfold reachBytes at hs;omega⟩
theorem Ks (n:Nat) (cs:List Value) (y:DataW H × List MemPlace) (h:DataW.trod enc Tryz.prog W 0 (fun _ => true) true n 137 cs = some y):∃ s:At,cs = s.cells∧O9 W s∧((y.1.weights Tryz.prog 137).all (·≤reachBytes) = true→s.e.tasks.length * 32≤reachBytes):=by
 obtain ⟨y0,y1,y2,m,hy,hlen,t0,t1,t2⟩:=trod_struct3 Tryz.underlying137 h;have hc:Tryz.prog.cellsOf 137 = 10:=by kernel_rfl
 have hci:Tryz.prog.cellsOf 3 = 1:=by kernel_rfl
 have hcs:Tryz.prog.cellsOf 29 = 3:=by kernel_rfl
 have hct:Tryz.prog.cellsOf 30 = 1:=by kernel_rfl
 have hco:Tryz.prog.cellsOf 32 = 8:=by kernel_rfl
 rw [hc] at hlen
 match cs,hlen with
 | [c0,c1,c2,c3,c4,c5,c6,c7,c8,c9],_ =>
  simp only [hci,hco] at t0 t1 t2;obtain ⟨cl,e0,_,w0⟩:=DataW.trod_int Tryz.underlying3 t0;obtain ⟨nu,e1,_,w1⟩:=DataW.trod_int Tryz.underlying3 t1;obtain ⟨xs,m2,_,hy2,_,hxl,hf⟩:=DataW.trod_struct Tryz.underlying32 t2
  match xs,hxl with
  | [z0,z1,z2,z3,z4,z5],_ =>
   have u0:DataW.trod enc Tryz.prog W 0 (fun _ => true) true m2 3 (List.take (Tryz.prog.cellsOf 3) (List.drop 0 [c2,c3,c4,c5,c6,c7,c8,c9])) = some z0:=hf 0 _ rfl;rw [hci] at u0;have u1:DataW.trod enc Tryz.prog W 0 (fun _ => true) true m2 3 (List.take (Tryz.prog.cellsOf 3) (List.drop 1 [c2,c3,c4,c5,c6,c7,c8,c9])) = some z1:=hf 1 _ rfl;rw [hci] at u1;have u2:DataW.trod enc Tryz.prog W 0 (fun _ => true) true m2 29 (List.take (Tryz.prog.cellsOf 29) (List.drop 2 [c2,c3,c4,c5,c6,c7,c8,c9])) = some z2:=hf 2 _ rfl;rw [hcs] at u2;have u3:DataW.trod enc Tryz.prog W 0 (fun _ => true) true m2 3 (List.take (Tryz.prog.cellsOf 3) (List.drop 5 [c2,c3,c4,c5,c6,c7,c8,c9])) = some z3:=hf 3 _ rfl;rw [hci] at u3;have u4:DataW.trod enc Tryz.prog W 0 (fun _ => true) true m2 30 (List.take (Tryz.prog.cellsOf 30) (List.drop 6 [c2,c3,c4,c5,c6,c7,c8,c9])) = some z4:=hf 4 _ rfl;rw [hct] at u4;have u5:DataW.trod enc Tryz.prog W 0 (fun _ => true) true m2 3 (List.take (Tryz.prog.cellsOf 3) (List.drop 7 [c2,c3,c4,c5,c6,c7,c8,c9])) = some z5:=hf 5 _ rfl;rw [hci] at u5;obtain ⟨kd,e2,_,w2⟩:=DataW.trod_int Tryz.underlying3 u0;obtain ⟨id,e3,_,w3⟩:=DataW.trod_int Tryz.underlying3 u1;obtain ⟨v0,v1,v2,m3,_,_,k0,k1,k2⟩:=trod_struct3 Tryz.underlying29 u2;simp only [hci] at k0 k1 k2;obtain ⟨s1,e4,_,w4⟩:=DataW.trod_int Tryz.underlying3 k0;obtain ⟨s2,e5,_,w5⟩:=DataW.trod_int Tryz.underlying3 k1;obtain ⟨s3,e6,_,w6⟩:=DataW.trod_int Tryz.underlying3 k2;obtain ⟨po,e7,_,w7⟩:=DataW.trod_int Tryz.underlying3 u3;obtain ⟨ta,tc,tl,e8,r1,r2,r3,r4,r5,r6⟩:=D5 (k:=4) (bytes:=32) (code:=AA.cells) Tryz.underlying30 (by kernel_rfl) (by kernel_rfl) (by omega) AA.cells_len (Gb (enc:=enc) (W:=W)) u4;obtain ⟨at_,e9,_,w9⟩:=DataW.trod_int Tryz.underlying3 u5;simp at e0 e1 e2 e3 e4 e5 e6 e7 e8 e9;subst e0 e1 e2 e3 e4 e5 e6 e7 e8 e9;refine ⟨⟨⟨cl,nu,kd,id,⟨s1,s2,s3⟩,po,tl,at_⟩,ta,tc⟩,rfl,⟨⟨AO w0,AO w1,AO w2,AO w3,AO w4,AO w5,AO w6,AO w7,AO w9,r5⟩,r1,r2,r3,r4⟩,fun hw => ?_⟩;rw [hy] at hw;simp only [DataW.weights,Tryz.underlying137,List.map_cons,List.map_nil,DataW.weightsEach,List.all_append,Bool.and_eq_true] at hw;have hw2:=hw.2.2.1;rw [hy2] at hw2;simp only [DataW.weights,Tryz.underlying32,List.map_cons,List.map_nil,DataW.weightsEach,List.all_append,Bool.and_eq_true] at hw2;exact (r6 hw2.2.2.2.2.1).1
theorem MM {base:Nat} {v:Value} {d:DataW H} {p:List MemPlace} (hval:Value.okWide Tryz.prog W .any base 45 v) (h:DataW.Trod enc Tryz.prog W 0 (fun _ => true) true 45 v d p) :
 ∃ (a:Option Addr) (c:Nat) (L:List At),v = .slice a L.length c∧(a = none→c = 0)∧(∀ x ∈ L,Pv x.e)∧((d.weights Tryz.prog 45).all (·≤reachBytes) = true→Cc Any W a L∧L.length * 96≤reachBytes):=by
 obtain ⟨a0,len,cap,rfl⟩:=okWide_slice Tryz.underlying45 hval;obtain ⟨fuel,hf⟩:=h;obtain ⟨a,c,L,hcs,r1,r2,r3,r4,r5,r6⟩:=D5 (k:=10) (bytes:=96) (code:=At.cells) Tryz.underlying45 (by kernel_rfl) (by kernel_rfl) (by omega) At.cells_len (Ks (enc:=enc) (W:=W)) hf;simp [Value.cells] at hcs;obtain ⟨rfl,rfl,rfl⟩:=hcs;exact ⟨_,_,L,rfl,r2,fun x hx => (r5 x hx).1,fun hw => ⟨⟨r1,fun x hx => (r5 x hx).ok ((r6 hw).2 x hx)⟩,(r6 hw).1⟩⟩
theorem Nw {W':World} (hb:Gr W W'):∀ (ts:List TypeId) (vs:List Value) (ds:List (DataW H)) (p:List MemPlace),
 (ts.all fun t => Tryz.prog.readableRec t && decide (t < Tryz.prog.types.size)) = true→(∀ x ∈ p,x.block < W.heap.size) →
 DataW.TrodAll enc Tryz.prog W 0 (fun _ => true) true ts vs ds p→DataW.TrodAll enc Tryz.prog W' 0 (fun b => decide (b < W.heap.size)) true ts vs ds p:=by
 intro ts;induction ts with
 | nil =>
  intro vs ds p _ _ h;obtain ⟨rfl,rfl,rfl⟩:=trodAll_nil h;exact rfl
 | cons t ts ih =>
  intro vs ds p hts hp h;simp only [List.all_cons,Bool.and_eq_true,decide_eq_true_eq] at hts;obtain ⟨v,vs',d,ds',p1,q,rfl,rfl,rfl,h1,h2⟩:=trodAll_cons h;exact trodAll_cons_mk (Below.trod OX hts.1.1 hts.1.2 h1 hb (fun x hx => hp x (List.mem_append_left _ hx))) (ih vs' ds' q (by simpa using hts.2) (fun x hx => hp x (List.mem_append_right _ hx)) h2)
theorem NV {f:Func} {s:ChangeSpec} {W':World} {args:Array Value} {ds gs:List (DataW H)} {before:List MemPlace}
 (hps:(f.params.toList.all fun t => Tryz.prog.readableRec t && decide (t < Tryz.prog.types.size)) = true) (hrt:f.resultTypes = #[4]) (hvs:s.vars = [])
 (hfn:(s.fn H ds).results = [.lit (.bool true)]∧(s.fn H ds).args = ds∧(s.fn H ds).vars = [])
 (hW:DataW.Whole enc Tryz.prog f.params.toList s.vars false W args.toList ds gs before) (hb:Gr W W') :
 s.post enc Tryz.prog f false true false false W args (.bool true) W':=by
 have hlt:=hW.lt;have hW':=hW;obtain ⟨p,q,hA,hV,rfl,hfz,hnd⟩:=hW;rw [hvs] at hV;obtain ⟨rfl,rfl⟩:=trodVars_none hV;refine ⟨ds,[],p ++ [],[],p,[],hW',?_,?_,?_,hb.frame _,fun h => by cases h⟩
 ·rw [List.append_nil,hfn.1,hrt];exact trodAll_mk1 (shut_bool Tryz.underlying4 _)
 ·rw [List.append_nil,hfn.2.1];exact Nw hb _ _ _ _ hps (fun x hx => hlt x (by simpa using hx)) hA
 ·rw [List.append_nil,hfn.2.2,hvs];rfl
end
section
variable {H:Type} {enc:TypeId × Value→H} {W:World}
abbrev askC (k:Int) (x:At):List Value:=[.int .i64 k,.int .i64 x.e.cl,.int .i64 x.e.nu,.int .i64 x.e.kd,.int .i64 x.e.id,.int .i64 x.e.srv.k,.int .i64 x.e.srv.q,.int .i64 x.e.srv.t,.int .i64 x.e.po,.slice x.a x.e.tasks.length x.c,.int .i64 x.e.at_]
theorem KF (n:Nat) (cs:List Value) (y:DataW H × List MemPlace) (h:DataW.trod enc Tryz.prog W 0 (fun _ => true) true n 47 cs = some y):∃ (k:Int) (s:At),cs = askC k s∧KN k∧O9 W s∧((y.1.weights Tryz.prog 47).all (·≤reachBytes) = true→s.e.tasks.length * 32≤reachBytes):=by
 obtain ⟨y0,y1,y2,y3,m,hy,hlen,t0,t1,t2,t3⟩:=trod_struct4 Tryz.underlying47 h;have hc:Tryz.prog.cellsOf 47 = 11:=by kernel_rfl
 have hci:Tryz.prog.cellsOf 3 = 1:=by kernel_rfl
 have hcs:Tryz.prog.cellsOf 29 = 3:=by kernel_rfl
 have hct:Tryz.prog.cellsOf 30 = 1:=by kernel_rfl
 have hco:Tryz.prog.cellsOf 32 = 8:=by kernel_rfl
 rw [hc] at hlen
 match cs,hlen with
 | [c,c0,c1,c2,c3,c4,c5,c6,c7,c8,c9],_ =>
  simp only [hci,hco] at t0 t1 t2 t3;obtain ⟨kk,e,_,w⟩:=DataW.trod_int Tryz.underlying3 t0;obtain ⟨cl,e0,_,w0⟩:=DataW.trod_int Tryz.underlying3 t1;obtain ⟨nu,e1,_,w1⟩:=DataW.trod_int Tryz.underlying3 t2;obtain ⟨xs,m2,_,hy2,_,hxl,hf⟩:=DataW.trod_struct Tryz.underlying32 t3
  match xs,hxl with
  | [z0,z1,z2,z3,z4,z5],_ =>
   have u0:DataW.trod enc Tryz.prog W 0 (fun _ => true) true m2 3 (List.take (Tryz.prog.cellsOf 3) (List.drop 0 [c2,c3,c4,c5,c6,c7,c8,c9])) = some z0:=hf 0 _ rfl;rw [hci] at u0;have u1:DataW.trod enc Tryz.prog W 0 (fun _ => true) true m2 3 (List.take (Tryz.prog.cellsOf 3) (List.drop 1 [c2,c3,c4,c5,c6,c7,c8,c9])) = some z1:=hf 1 _ rfl;rw [hci] at u1;have u2:DataW.trod enc Tryz.prog W 0 (fun _ => true) true m2 29 (List.take (Tryz.prog.cellsOf 29) (List.drop 2 [c2,c3,c4,c5,c6,c7,c8,c9])) = some z2:=hf 2 _ rfl;rw [hcs] at u2;have u3:DataW.trod enc Tryz.prog W 0 (fun _ => true) true m2 3 (List.take (Tryz.prog.cellsOf 3) (List.drop 5 [c2,c3,c4,c5,c6,c7,c8,c9])) = some z3:=hf 3 _ rfl;rw [hci] at u3;have u4:DataW.trod enc Tryz.prog W 0 (fun _ => true) true m2 30 (List.take (Tryz.prog.cellsOf 30) (List.drop 6 [c2,c3,c4,c5,c6,c7,c8,c9])) = some z4:=hf 4 _ rfl;rw [hct] at u4;have u5:DataW.trod enc Tryz.prog W 0 (fun _ => true) true m2 3 (List.take (Tryz.prog.cellsOf 3) (List.drop 7 [c2,c3,c4,c5,c6,c7,c8,c9])) = some z5:=hf 5 _ rfl;rw [hci] at u5;obtain ⟨kd,e2,_,w2⟩:=DataW.trod_int Tryz.underlying3 u0;obtain ⟨id,e3,_,w3⟩:=DataW.trod_int Tryz.underlying3 u1;obtain ⟨v0,v1,v2,m3,_,_,k0,k1,k2⟩:=trod_struct3 Tryz.underlying29 u2;simp only [hci] at k0 k1 k2;obtain ⟨s1,e4,_,w4⟩:=DataW.trod_int Tryz.underlying3 k0;obtain ⟨s2,e5,_,w5⟩:=DataW.trod_int Tryz.underlying3 k1;obtain ⟨s3,e6,_,w6⟩:=DataW.trod_int Tryz.underlying3 k2;obtain ⟨po,e7,_,w7⟩:=DataW.trod_int Tryz.underlying3 u3;obtain ⟨ta,tc,tl,e8,r1,r2,r3,r4,r5,r6⟩:=D5 (k:=4) (bytes:=32) (code:=AA.cells) Tryz.underlying30 (by kernel_rfl) (by kernel_rfl) (by omega) AA.cells_len (Gb (enc:=enc) (W:=W)) u4;obtain ⟨at_,e9,_,w9⟩:=DataW.trod_int Tryz.underlying3 u5;simp at e e0 e1 e2 e3 e4 e5 e6 e7 e8 e9;subst e e0 e1 e2 e3 e4 e5 e6 e7 e8 e9;refine ⟨kk,⟨⟨cl,nu,kd,id,⟨s1,s2,s3⟩,po,tl,at_⟩,ta,tc⟩,rfl,AO w,⟨⟨AO w0,AO w1,AO w2,AO w3,AO w4,AO w5,AO w6,AO w7,AO w9,r5⟩,r1,r2,r3,r4⟩,fun hw => ?_⟩;rw [hy] at hw;simp only [DataW.weights,Tryz.underlying47,List.map_cons,List.map_nil,DataW.weightsEach,List.all_append,Bool.and_eq_true] at hw;have hw2:=hw.2.2.2.1;rw [hy2] at hw2;simp only [DataW.weights,Tryz.underlying32,List.map_cons,List.map_nil,DataW.weightsEach,List.all_append,Bool.and_eq_true] at hw2;exact (r6 hw2.2.2.2.2.1).1
theorem Pk {base:Nat} {v:Value} {d:DataW H} {p:List MemPlace} (hval:Value.okWide Tryz.prog W .any base 47 v) (h:DataW.Trod enc Tryz.prog W 0 (fun _ => true) true 47 v d p) :
 ∃ (k:Int) (x:At),v = .agg #[.int .i64 k,.int .i64 x.e.cl,.int .i64 x.e.nu,.int .i64 x.e.kd,.int .i64 x.e.id,.int .i64 x.e.srv.k,.int .i64 x.e.srv.q,.int .i64 x.e.srv.t,.int .i64 x.e.po,.slice x.a x.e.tasks.length x.c,.int .i64 x.e.at_]∧KN k∧Pv x.e∧((d.weights Tryz.prog 47).all (·≤reachBytes) = true→x.ok Any W):=by
 obtain ⟨cs,rfl,hsz⟩:=okWide_struct Tryz.underlying47 hval;obtain ⟨fuel,hf⟩:=h;obtain ⟨k,s,hcs,hk,hs,hz⟩:=KF _ _ _ hf;simp [Value.cells] at hcs;exact ⟨k,s,congrArg Value.agg (Array.ext' hcs),hk,hs.1,fun hw => hs.ok (hz hw)⟩
structure Rep where
 cl:Int
 nu:Int
 co:Int
 id:Int
 tree:List UInt8
end
end Go.Proofs.YtdfelohjdkcpkaaGreatDoor
namespace Go.Proofs.YtdfelohjdkcpkaaGreatDoor
open Go.RowKit
theorem E7 {W w:World} {ops:Array Oper} {rest:List Oper} {o:Oper} {a:Act} {Q:Exit→Act→World→Prop} (hgd:o.guard = none) (s x:Operand)
 (ho:o.op = .call { callee:=.builtin .append,args:=#[s,x],argTypes:=#[54,54] }) (a1:Option Addr) (c1:Nat) (L1:List UInt8) (hs:a.eval s = .slice a1 L1.length c1) (hO:Own W w a1 c1 L1)
 (sa:Option Addr) (c:Nat) (l:List UInt8) (hx:a.eval x = .slice sa l.length c) (hl:Az w sa l) (hc:sa = none→c = 0) (hb:L1.length + l.length≤140737488355328)
 (h:∀ a' c' w',Own W w' a' c' (L1 ++ l)→w.grownBy w' (Value.slice a1 L1.length c1).ownBlock→wpList Tryz.prog ops Q rest (a.put o.dst (.slice a' (L1 ++ l).length c')) w'):wpList Tryz.prog ops Q (o :: rest) a w:=by
 obtain ⟨i5,hi,hz0,hz1,hz2⟩:=info_parts Tryz.infoU8;obtain ⟨ow,br,bn,bb,g⟩:=hO;refine Ai (k:=1) (enc:=Cq) hgd s x 54 ho W.heap.size 5 i5 _ 1 Tryz.underlying54 hi hz0 hz1 hz2 rfl (by decide) Bi Co (.slice a1 L1.length c1) L1 hs ow sa c l hx hl hc (by unfold maxLen;omega) (by omega) g.size ?_;intro v2 w2 hown2 hgr2;have g2:Gr W w2:=g.grown hgr2 (A7 ow);obtain ⟨a2,c2,hv2,ho2⟩:=Own.of hown2 g2;subst hv2;exact h a2 c2 w2 ho2 hgr2
theorem Iw (w:World) (e:Array Value) (he:e = #[]):Own w (w.alloc (.cells e 5)) (some ⟨w.heap.size,0,none⟩) 0 []:=by
 subst he;obtain ⟨a,c,hv,hO⟩:=Own.of (l:=[]) (Bw (α:=UInt8) (enc:=Cq) w 5 1 (.cells #[] 5) rfl w.heap.size (Nat.le_refl _)) ((Gr.refl w).alloc _);cases hv
 exact hO
theorem IR {w:World} {n m:Nat} (hn:w.heap.size = n) (hm:m < 256):Az (w.alloc (.cells #[.int .u8 (m:Int)] 5)) (some ⟨n,0,none⟩) [UInt8.ofNat m]:=BO Bi w hn _ _ _ (F6 m hm)
theorem NT (w:World) (n:Nat) (hn:n < 9223372036854775808) :
 Calls Tryz.prog 123 #[.int .i64 n] w fun e w' => ∃ a c,e = .returned (.slice a (BX n).length c)∧Own w w' a c (BX n):=by
 have hlen:=EP hn;have h0:=Iw w #[] rfl;replace hlen:=zH hlen;replace h0:=zH h0;go_enter Tryz.func123,Tryz.ntmps123;go_wp2_with fail;go_loopw [0,3] (fun nv ov wr => ∃ (m:Nat) (L:List UInt8) (a:Option Addr) (c:Nat),nv = .int .i64 m∧m≤n∧ov = .slice a L.length c∧Hid (L ++ BX m = BX n)∧Hid (Own w wr a c L)) (fun nv _ _ => (intOf nv).toNat);case atStart => exact ⟨n,[],_,_,rfl,Nat.le_refl _,rfl,Lib.hid rfl,h0⟩
 case round =>
  obtain ⟨m,L,a,c,rfl,hmn,rfl,heq,hO⟩:=hrel;have hll:L.length≤10:=by
   have h1:=congrArg List.length heq.out;rw [List.length_append] at h1;have:=hlen.out;omega
  by_cases hs:m < 128
  ·have heq':=heq.out;rw [De hs] at heq';have hd:(m:Int) / 128 = 0:=by omega
   have hmm:(m:Int) % 128 = (m:Int):=by omega
   have hm8:(m:Int) % 256 = m:=by omega
   have hb1:=IR (w:=wr) rfl (m:=m) (by omega);have hO1:=hO.out.gr ((Gr.refl wr).alloc (.cells #[.int .u8 (m:Int)] 5));replace hO1:=zH hO1;replace hb1:=zH hb1;replace heq':=Lib.hid heq';go_wp2_with (at_builtin;go_loud (refine E7 (W:=w) rfl _ _ rfl a c L rfl hO1.out (some ⟨wr.heap.size,0,none⟩) 1 [UInt8.ofNat m] rfl hb1.out (fun h => by cases h) (by simp;omega) ?_;intro a2 c2 w2 hO2 hg2;rw [heq'.out] at hO2 ⊢;replace hO2:=zH hO2));go_ret;exact ⟨a2,c2,rfl,hO2.out⟩
  ·have heq':=heq.out;rw [Fc hs] at heq';have heq2:L ++ [UInt8.ofNat (m % 128 + 128)] ++ BX (m / 128) = BX n:=by rw [List.append_assoc];exact heq'
   obtain ⟨d,hd⟩:∃ d:Nat,(m:Int) / 128 = (d:Int):=⟨m / 128,by omega⟩
   obtain ⟨r,hr⟩:∃ r:Nat,(m:Int) % 128 = (r:Int):=⟨m % 128,by omega⟩
   have hdm:m / 128 = d:=by omega
   have hrm:m % 128 = r:=by omega
   rw [hdm,hrm] at heq2;have hd1:1≤(d:Int):=by omega
   have hd0:((d:Int) == 0) = false:=beq_eq_false_iff_ne.2 (by omega);have hdm2:d≤m:=by omega
   have hdm3:d < m:=by omega
   have hr1:r < 128:=by omega
   have hr8:(r:Int) % 256 = r:=by omega
   have hb1:=IR (w:=wr) rfl (m:=r + 128) (by omega);rw [show ((r + 128:Nat):Int) = (r:Int) + 128 by omega] at hb1;have hO1:=hO.out.gr ((Gr.refl wr).alloc (.cells #[.int .u8 ((r:Int) + 128)] 5));replace hO1:=zH hO1;replace hb1:=zH hb1;replace heq':=Lib.hid heq';refine AZ ?_ heq2 hdm hrm;clear heq2 hdm hrm;intro heq2 hdm hrm;go_wp2_with (at_builtin;go_loud (refine E7 (W:=w) rfl _ _ rfl a c L rfl hO1.out (some ⟨wr.heap.size,0,none⟩) 1 [UInt8.ofNat (r + 128)] rfl hb1.out (fun h => by cases h) (by simp;omega) ?_;intro a2 c2 w2 hO2 hg2;replace hO2:=zH hO2));go_roundw;case rel => exact ⟨d,L ++ [UInt8.ofNat (r + 128)],a2,c2,rfl,by omega,by rw [List.length_append];rfl,heq2,hO2⟩
   case measure => simp [intOf];omega
theorem Hc (w:World) (r:Rep) (a a':Option Addr) (c c':Nat) (h:Az w a r.tree) (h':Az w a' r.tree) :
 Calls Tryz.prog 23 #[.agg #[.int .i64 r.cl,.int .i64 r.nu,.int .i64 r.co,.int .i64 r.id,.slice a r.tree.length c],.agg #[.int .i64 r.cl,.int .i64 r.nu,.int .i64 r.co,.int .i64 r.id,.slice a' r.tree.length c']] w fun e w' => e = .returned (.bool true)∧Gr w w':=by
 have q1:=DQ c (h.gr (((Gr.refl w).alloc (.cells #[.int .i64 r.cl,.int .i64 r.nu,.int .i64 r.co,.int .i64 r.id,.slice a r.tree.length c] 56)).alloc (.cells #[.int .i64 r.cl,.int .i64 r.nu,.int .i64 r.co,.int .i64 r.id,.slice a' r.tree.length c'] 56)));have q2:=DQ c' (h'.gr (((Gr.refl w).alloc (.cells #[.int .i64 r.cl,.int .i64 r.nu,.int .i64 r.co,.int .i64 r.id,.slice a r.tree.length c] 56)).alloc (.cells #[.int .i64 r.cl,.int .i64 r.nu,.int .i64 r.co,.int .i64 r.id,.slice a' r.tree.length c'] 56)));replace h:=zH h;replace h':=Lib.hid h';go_enter Tryz.func23,Tryz.ntmps23;go_wp2_with fail;go_ret;exact ⟨rfl,(by repeat (first | exact Gr.refl _ | apply Gr.alloc | apply Gr.drew | apply Gr.drewN | (refine Gr.setCell ?_ (by first | (simp;done) | (simp;omega)) _) | (refine Gr.trans ?_ (by assumption))))⟩
abbrev DJ (d:Int):List Value:=[.int .i64 d]
theorem Ch (d:Int):(DJ d).length = 1:=rfl
theorem N1 (d:Int):∀ u ∈ DJ d,u.oneCell' = true:=by intro u hu;simp at hu;subst hu;rfl
def Dp (W w:World) (a:Option Addr) (c:Nat) (l:List Int):Prop:=w.ownsRow W.heap.size 3 1 (.slice a l.length c) l.length (l.flatMap DJ)∧Al 1 DJ w a l∧(a = none→c = 0)∧(∀ x,a = some x→W.heap.size≤x.block)∧Gr W w
theorem Dp.of {W w:World} {v:Value} {l:List Int} (h:w.ownsRow W.heap.size 3 1 v l.length (l.flatMap DJ)) (g:Gr W w):∃ a c,v = .slice a l.length c∧Dp W w a c l:=by
 obtain ⟨a,c,hv,hr,hn,hB⟩:=Af Ch h;subst hv;exact ⟨a,c,rfl,h,hr,hn,hB,g⟩
theorem Dp.gr {W w w':World} {a:Option Addr} {c:Nat} {l:List Int} (h:Dp W w a c l) (g:Gr w w'):Dp W w' a c l:=⟨As h.1 g,Al.of_below h.2.1 (B:=w.heap.size) (fun x hx => (Ar h.1 x.block (by rw [hx];rfl)).1) g,h.2.2.1,h.2.2.2.1,h.2.2.2.2.trans g⟩
theorem Dp.blk {W w w':World} {a:Option Addr} {c:Nat} {l:List Int} (h:Dp W w a c l) {b:Nat} {cs:Array Value} {t:TypeId} (hb:Ag w b cs t) (ht:t ≠ 3) (hg:w.grownBy w' (Value.slice a l.length c).ownBlock):Ag w' b cs t:=by
 refine hb.grown hg fun e => ?_
 exact Aj h.1 hb (Ne.symm ht) e.symm
theorem B2 {W w:World} {ops:Array Oper} {rest:List Oper} {o:Oper} {a:Act} {Q:Exit→Act→World→Prop} (hgd:o.guard = none) (s x:Operand)
 (ho:o.op = .call { callee:=.builtin .append,args:=#[s,x],argTypes:=#[72,72] }) (a1:Option Addr) (c1:Nat) (L1:List Int) (hs:a.eval s = .slice a1 L1.length c1) (hO:Dp W w a1 c1 L1)
 (sa:Option Addr) (c:Nat) (l:List Int) (hx:a.eval x = .slice sa l.length c) (hl:Al 1 DJ w sa l) (hc:sa = none→c = 0) (hb:L1.length + l.length≤1000000)
 (h:∀ a' c' w',Dp W w' a' c' (L1 ++ l)→w.grownBy w' (Value.slice a1 L1.length c1).ownBlock→wpList Tryz.prog ops Q rest (a.put o.dst (.slice a' (L1 ++ l).length c')) w'):wpList Tryz.prog ops Q (o :: rest) a w:=by
 obtain ⟨i5,hi,hz0,hz1,hz2⟩:=info_parts Tryz.infoInt;obtain ⟨ow,br,bn,bb,g⟩:=hO;refine Ai (k:=1) (enc:=DJ) hgd s x 72 ho W.heap.size 3 i5 _ 8 Tryz.underlying72 hi hz0 hz1 hz2 rfl (by decide) Ch N1 (.slice a1 L1.length c1) L1 hs ow sa c l hx hl hc (by unfold maxLen;omega) (by omega) g.size ?_;intro v2 w2 hown2 hgr2;have g2:Gr W w2:=g.grown hgr2 (A7 ow);obtain ⟨a2,c2,hv2,ho2⟩:=Dp.of hown2 g2;subst hv2;exact h a2 c2 w2 ho2 hgr2
theorem J8 (w:World) {n m:Nat} {l:List Int} (hw:w.heap.size = m) (hn:l.length = n) (cs:Array Value) (h:cs.toList = l.flatMap DJ) (hm:n≤1000000):Dp w (w.alloc (.cells cs 3)) (some ⟨m,0,none⟩) n l:=by
 subst hn;subst hw;have hl:(l.flatMap DJ).length = l.length:=by rw [BZ Ch,Nat.mul_one]
 have hcs:cs.size = l.length:=by rw [← hl,← h];simp
 have ho:(w.alloc (.cells cs 3)).ownsRow w.heap.size 3 1 (.slice (some ⟨w.heap.size,0,none⟩) l.length l.length) l.length (l.flatMap DJ):=by
  refine ⟨by rw [hl,Nat.mul_one],.inr ⟨w.heap.size,l.length,cs,rfl,Nat.le_refl _,heap_alloc_new w _,by omega,by unfold maxLen;omega,by omega,?_⟩⟩;rw [← h];exact List.take_of_length_le (by simp;omega)
 obtain ⟨a,c,hv,hO⟩:=Dp.of ho ((Gr.refl w).alloc _);cases hv
 exact hO
end Go.Proofs.YtdfelohjdkcpkaaGreatDoor
