/- The trees that orders make: plain laws. -/
import Derived.Test.YtdfelohjdkcpkaaGreatDoorK9
import Derived.Test.YtdfelohjdkcpkaaGreatDoorK1
import Derived.Test.YtdfelohjdkcpkaaGreatDoorK5
import Derived.Deep.DeepCutAuto
import Derived.Deep.AppendLies
namespace Go.Proofs.YtdfelohjdkcpkaaGreatDoor
open Go.RowKit
theorem sumI_perm {α:Type} (f:α→Int) {l m:List α} (h:l.Perm m):sumI f l = sumI f m:=by
 induction h with
 | nil => rfl
 | cons x _ ih => rw [sumI_cons,sumI_cons,ih]
 | swap x y l => rw [sumI_cons,sumI_cons,sumI_cons,sumI_cons];omega
 | trans _ _ ih1 ih2 => rw [ih1,ih2]
theorem demI_perm {l m:List Srv} (h:l.Perm m):demI l = demI m:=by
 funext i;exact sumI_perm _ h
theorem stepsL_perm {l m:List Srv} (h:l.Perm m) (n:Nat):stepsL l n = stepsL m n:=by
 induction n with
 | zero => rfl
 | succ n ih =>
  unfold stepsL;rw [ih,demI_perm h]
theorem all_perm {α:Type} {p:α→Bool} {l m:List α} (h:l.Perm m):l.all p = m.all p:=by
 induction h with
 | nil => rfl
 | cons x _ ih => rw [List.all_cons,List.all_cons,ih]
 | swap x y l => rw [List.all_cons,List.all_cons,List.all_cons,List.all_cons,← Bool.and_assoc,← Bool.and_assoc,Bool.and_comm (p y)]
 | trans _ _ ih1 ih2 => rw [ih1,ih2]
theorem srvErr_perm {l m:List Srv} (h:l.Perm m):srvErr l = srvErr m:=by
 unfold srvErr allLeg;rw [all_perm h,h.length_eq]
theorem kids_perm {s:Srv} {l m:List Srv} (h:l.Perm m):kidsErr s l = kidsErr s m:=by
 have h1:sumQ l = sumQ m:=sumI_perm _ h;unfold kidsErr kidsB;rw [srvErr_perm h,shareS_perm h,h1,stepsL_perm h,demI_perm h]
theorem kids_sub {s:Srv} {l m:List Srv} (h:m.Sublist l) (hk:kidsErr s l = none):kidsErr s m = none:=by
 have key:∀ (l m:List Srv),m.Sublist l→∀ a:List Srv,kidsErr s (a ++ l) = none→kidsErr s (a ++ m) = none:=by
  intro l m h;induction h with
  | slnil => intro a hk;exact hk
  | cons x _ ih => intro a hk;exact ih a (kids_fewer hk)
  | cons_cons x _ ih =>
   intro a hk;have h1:=ih (a ++ [x]) (by simpa using hk);simpa using h1
 exact key l m h [] hk
structure Sane (n:Nat) (t:TreeV):Prop where
 l0:0≤t.last
 l1:t.last≤n
 n0:0≤t.now
 n1:t.now≤1099511627776
 st:t.nodes.Pairwise fun x y => x.id < y.id
 lw:∀ x ∈ t.nodes,0≤x.par∧x.par < x.id∧x.id≤t.last
 nl:t.nodes.length≤n
 gl:t.ghosts.length≤n
theorem Sane.zero:Sane 0 ⟨[],[],0,0⟩:=⟨by simp,by simp,by simp,by simp,.nil,by simp,by simp,by simp⟩
theorem Sane.more {n m:Nat} {t:TreeV} (h:Sane n t) (hm:n≤m):Sane m t:=⟨h.l0,by have:=h.l1;omega,h.n0,h.n1,h.st,h.lw,by have:=h.nl;omega,by have:=h.gl;omega⟩
theorem drained_at (t:TreeV) (p:Int):∃ f:Gh→Gh,(∀ g,(f g).par = g.par∧(f g).srv = g.srv∧g.till≤(f g).till)∧t.drained p = {t with ghosts:=t.ghosts.map f}∧(kidsErr ((t.server p).getD rootS) (t.counted p) = none→∀ g,g.par = p→t.now + drainI ((t.server p).getD rootS) (t.counted p)≤(f g).till):=by
 unfold TreeV.drained;dsimp only;by_cases hk:kidsErr ((t.server p).getD rootS) (t.counted p) = none
 ·rw [if_pos hk];refine ⟨fun g => if g.par = p then {g with till:=max g.till (t.now + drainI ((t.server p).getD rootS) (t.counted p))} else g,fun g => ?_,rfl,fun _ g hg => ?_⟩
  ·dsimp only;split
   ·exact ⟨rfl,rfl,by dsimp only;omega⟩
   ·exact ⟨rfl,rfl,Int.le_refl _⟩
  ·dsimp only;rw [if_pos hg];dsimp only;omega
 ·rw [if_neg hk];exact ⟨id,fun g => ⟨rfl,rfl,Int.le_refl _⟩,by simp,fun h => absurd h hk⟩
theorem create_cases (t:TreeV) (o:OrdV):(∃ c,c ≠ 0∧t.create o = (t,c,0)) ∨ ∃ s,o.srv.leg = true∧t.server o.id = some s∧((t.find o.id).map (·.pol)).getD 0 = 0∧t.depth o.id < 4∧t.nodes.length < 64∧(t.counted o.id).length < 8∧kidsErr s (t.counted o.id ++ [o.srv]) = none∧t.create o = (({t with last:=t.last + 1,nodes:=t.nodes ++ [(⟨t.last + 1,o.id,o.srv,0,[]⟩:Nd)]}:TreeV).drained o.id,0,t.last + 1):=by
 unfold TreeV.create;cases h1:o.srv.leg with
 | false => rw [if_pos rfl];exact .inl ⟨7,by decide,rfl⟩
 | true =>
  rw [if_neg (by decide)];cases h2:t.server o.id with
  | none => exact .inl ⟨1,by decide,rfl⟩
  | some s =>
   dsimp only;by_cases h3:((t.find o.id).map (·.pol)).getD 0 ≠ 0
   ·rw [if_pos h3];exact .inl ⟨3,by decide,rfl⟩
   rw [if_neg h3];by_cases h4:4≤t.depth o.id
   ·rw [if_pos h4];exact .inl ⟨6,by decide,rfl⟩
   rw [if_neg h4];by_cases h5:64≤t.nodes.length ∨ 8≤(t.counted o.id).length
   ·rw [if_pos h5];exact .inl ⟨5,by decide,rfl⟩
   rw [if_neg h5];by_cases h6:kidsErr s (t.counted o.id ++ [o.srv]) ≠ none
   ·rw [if_pos h6];exact .inl ⟨4,by decide,rfl⟩
   rw [if_neg h6];exact .inr ⟨s,rfl,rfl,by simpa using h3,by omega,by omega,by omega,by simpa using h6,rfl⟩
theorem loose_cases (t:TreeV) (id:Int):t.loose id ≠ 0 ∨ t.loose id = 0∧∃ x,t.find id = some x∧t.counted id = []:=by
 unfold TreeV.loose;cases h1:t.find id with
 | none => exact .inl (by simp)
 | some x =>
  dsimp only;by_cases h2:t.counted id ≠ []
  ·rw [if_pos h2];exact .inl (by decide)
  ·rw [if_neg h2];exact .inr ⟨rfl,x,rfl,by simpa using h2⟩
theorem resize_cases (t:TreeV) (o:OrdV):(∃ c,c ≠ 0∧t.resize o = (t,c,0)) ∨ ∃ x,o.srv.leg = true∧t.find o.id = some x∧t.counted o.id = []∧x.pol = 0∧(t.counted x.par).length < 8∧kidsErr ((t.server x.par).getD rootS) (t.counted x.par ++ [o.srv]) = none∧t.resize o = (({t with nodes:=setNd t.nodes o.id fun n => {n with srv:=o.srv},ghosts:=t.ghosts ++ [(⟨x.par,x.srv,0⟩:Gh)]}:TreeV).drained x.par,0,o.id):=by
 unfold TreeV.resize;cases h1:o.srv.leg with
 | false => rw [if_pos rfl];exact .inl ⟨7,by decide,rfl⟩
 | true =>
  rw [if_neg (by decide)];rcases loose_cases t o.id with h2 | ⟨h2,x,h3,h4⟩
  ·rw [if_pos h2];exact .inl ⟨_,h2,rfl⟩
  rw [if_neg (by rw [h2];decide),h3];dsimp only;by_cases h5:x.pol ≠ 0
  ·rw [if_pos h5];exact .inl ⟨3,by decide,rfl⟩
  rw [if_neg h5];by_cases h6:8≤(t.counted x.par).length
  ·rw [if_pos h6];exact .inl ⟨5,by decide,rfl⟩
  rw [if_neg h6];by_cases h7:kidsErr ((t.server x.par).getD rootS) (t.counted x.par ++ [o.srv]) ≠ none
  ·rw [if_pos h7];exact .inl ⟨4,by decide,rfl⟩
  rw [if_neg h7];exact .inr ⟨x,rfl,rfl,h4,by simpa using h5,by omega,by simpa using h7,rfl⟩
theorem remove_cases (t:TreeV) (o:OrdV):(∃ c,c ≠ 0∧t.remove o = (t,c,0)) ∨ ∃ x,∃ t1:TreeV,t.find o.id = some x∧t.counted o.id = []∧t1 = {t with nodes:=t.nodes.filter fun x => decide (x.id ≠ o.id),ghosts:=t.ghosts ++ [(⟨x.par,x.srv,0⟩:Gh)]}∧t.remove o = ({t1 with ghosts:=t.ghosts ++ [(⟨x.par,x.srv,if kidsErr ((t1.server x.par).getD rootS) (t1.counted x.par) = none then t.now + drainI ((t1.server x.par).getD rootS) (t1.counted x.par) else 0⟩:Gh)]},0,o.id):=by
 unfold TreeV.remove;rcases loose_cases t o.id with h2 | ⟨h2,x,h3,h4⟩
 ·rw [if_pos h2];exact .inl ⟨_,h2,rfl⟩
 rw [if_neg (by rw [h2];decide),h3];exact .inr ⟨x,_,rfl,h4,rfl,rfl⟩
theorem bind_cases (t:TreeV) (o:OrdV):(∃ c,c ≠ 0∧t.bind o = (t,c,0)) ∨ ∃ x,guestOk o.pol o.tasks = true∧t.find o.id = some x∧t.counted o.id = []∧x.pol = 0∧guestErr x.srv o.pol o.tasks = none∧t.bind o = ({t with nodes:=setNd t.nodes o.id fun n => {n with pol:=o.pol,tasks:=o.tasks}},0,o.id):=by
 unfold TreeV.bind;cases h1:guestOk o.pol o.tasks with
 | false => rw [if_pos rfl];exact .inl ⟨8,by decide,rfl⟩
 | true =>
  rw [if_neg (by decide)];rcases loose_cases t o.id with h2 | ⟨h2,x,h3,h4⟩
  ·rw [if_pos h2];exact .inl ⟨_,h2,rfl⟩
  rw [if_neg (by rw [h2];decide),h3];dsimp only;by_cases h5:x.pol ≠ 0
  ·rw [if_pos h5];exact .inl ⟨3,by decide,rfl⟩
  rw [if_neg h5];by_cases h6:guestErr x.srv o.pol o.tasks ≠ none
  ·rw [if_pos h6];exact .inl ⟨4,by decide,rfl⟩
  rw [if_neg h6];exact .inr ⟨x,rfl,rfl,h4,by simpa using h5,by simpa using h6,rfl⟩
theorem apply_cases (t:TreeV) (o:OrdV):(t.apply o = (t,7,0)∧(o.kd < 1 ∨ 4 < o.kd ∨ o.at_ < 0 ∨ 1099511627776 < o.at_)) ∨ 0≤o.at_∧o.at_≤1099511627776∧(o.kd = 1∧t.apply o = (t.tick o.at_).create o ∨ o.kd = 2∧t.apply o = (t.tick o.at_).resize o ∨ o.kd = 3∧t.apply o = (t.tick o.at_).remove o ∨ o.kd = 4∧t.apply o = (t.tick o.at_).bind o):=by
 unfold TreeV.apply;by_cases h:o.kd < 1 ∨ 4 < o.kd ∨ o.at_ < 0 ∨ 1099511627776 < o.at_
 ·rw [if_pos h];exact .inl ⟨rfl,h⟩
 ·rw [if_neg h];refine .inr ⟨by omega,by omega,?_⟩;dsimp only;by_cases h1:o.kd = 1
  ·rw [if_pos h1];exact .inl ⟨h1,rfl⟩
  rw [if_neg h1];by_cases h2:o.kd = 2
  ·rw [if_pos h2];exact .inr (.inl ⟨h2,rfl⟩)
  rw [if_neg h2];by_cases h3:o.kd = 3
  ·rw [if_pos h3];exact .inr (.inr (.inl ⟨h3,rfl⟩))
  rw [if_neg h3];exact .inr (.inr (.inr ⟨by omega,rfl⟩))
theorem Sane.tick {n:Nat} {t:TreeV} (h:Sane n t) {a:Int} (ha:a≤1099511627776):Sane n (t.tick a):=⟨h.l0,h.l1,by have:=h.n0;show 0≤max t.now a;omega,by have:=h.n1;show max t.now a≤_;omega,h.st,h.lw,h.nl,Nat.le_trans (List.length_filter_le ..) h.gl⟩
theorem find_mem {t:TreeV} {id:Int} {x:Nd} (h:t.find id = some x):x ∈ t.nodes∧x.id = id:=⟨List.mem_of_find?_eq_some h,by have:=List.find?_some h;simpa using this⟩
theorem Sane.drained {n:Nat} {t:TreeV} (h:Sane n t) (p:Int):Sane n (t.drained p):=by
 obtain ⟨f,_,h2,_⟩:=drained_at t p;rw [h2];exact ⟨h.l0,h.l1,h.n0,h.n1,h.st,h.lw,h.nl,by show (t.ghosts.map f).length≤n;rw [List.length_map];exact h.gl⟩
theorem setNd_pw {l:List Nd} {id:Int} {f:Nd→Nd} (hf:∀ x,(f x).id = x.id) (h:l.Pairwise fun x y => x.id < y.id):(setNd l id f).Pairwise fun x y => x.id < y.id:=by
 unfold setNd;rw [List.pairwise_map];refine h.imp ?_;intro a b hab;have key:∀ z:Nd,(if z.id = id then f z else z).id = z.id:=fun z => by split;exact hf z;rfl
 rw [key,key];exact hab
theorem setNd_mem {l:List Nd} {id:Int} {f:Nd→Nd} {y:Nd} (h:y ∈ setNd l id f):∃ x ∈ l,(x.id ≠ id∧y = x) ∨ (x.id = id∧y = f x):=by
 unfold setNd at h;obtain ⟨x,hx,rfl⟩:=List.mem_map.1 h;by_cases h1:x.id = id
 ·exact ⟨x,hx,.inr ⟨h1,by rw [if_pos h1]⟩⟩
 ·exact ⟨x,hx,.inl ⟨h1,by rw [if_neg h1]⟩⟩
theorem server_at {t:TreeV} {id:Int} {s:Srv} (h:t.server id = some s):id = 0∧s = rootS ∨ id ≠ 0∧∃ x,t.find id = some x∧s = x.srv:=by
 unfold TreeV.server at h;by_cases h0:id = 0
 ·rw [if_pos h0] at h;exact .inl ⟨h0,(Option.some.inj h).symm⟩
 ·rw [if_neg h0] at h;cases hf:t.find id with
  | none => rw [hf] at h;cases h
  | some x => rw [hf] at h;exact .inr ⟨h0,x,rfl,(Option.some.inj h).symm⟩
theorem Sane.below {n:Nat} {t:TreeV} (h:Sane n t) {id:Int} {s:Srv} (hs:t.server id = some s):0≤id∧id≤t.last:=by
 rcases server_at hs with ⟨rfl,_⟩ | ⟨_,x,hf,_⟩
 ·exact ⟨by omega,h.l0⟩
 ·obtain ⟨hm,rfl⟩:=find_mem hf;have:=h.lw x hm;omega
theorem find_split {n:Nat} {t:TreeV} (h:Sane n t) {id:Int} {x:Nd} (hf:t.find id = some x):∃ A B,t.nodes = A ++ x :: B∧x.id = id∧∀ y ∈ A ++ B,y.id ≠ id:=by
 obtain ⟨hm,rfl⟩:=find_mem hf;obtain ⟨A,B,e⟩:=List.append_of_mem hm;refine ⟨A,B,e,rfl,fun y hy => ?_⟩;have h1:=h.st;rw [e,List.pairwise_append,List.pairwise_cons] at h1;rcases List.mem_append.1 hy with hy | hy
 ·have:=h1.2.2 y hy x (by simp);omega
 ·have:=h1.2.1.1 y hy;omega
theorem set_split {A B:List Nd} {x:Nd} {id:Int} {f:Nd→Nd} (hx:x.id = id) (h:∀ y ∈ A ++ B,y.id ≠ id):setNd (A ++ x :: B) id f = A ++ f x :: B:=by
 have key:∀ l:List Nd,(∀ y ∈ l,y.id ≠ id)→l.map (fun n => if n.id = id then f n else n) = l:=by
  intro l hl;have h1:l.map (fun n => if n.id = id then f n else n) = l.map fun n => n:=List.map_congr_left (fun a ha => by rw [if_neg (hl a ha)])
  rw [h1,List.map_id']
 unfold setNd;rw [List.map_append,List.map_cons,if_pos hx,key A (fun y hy => h y (List.mem_append_left _ hy)),key B (fun y hy => h y (List.mem_append_right _ hy))]
theorem del_split {A B:List Nd} {x:Nd} {id:Int} (hx:x.id = id) (h:∀ y ∈ A ++ B,y.id ≠ id):(A ++ x :: B).filter (fun x => decide (x.id ≠ id)) = A ++ B:=by
 have key:∀ l:List Nd,(∀ y ∈ l,y.id ≠ id)→l.filter (fun x => decide (x.id ≠ id)) = l:=fun l hl => List.filter_eq_self.2 (fun a ha => by simpa using hl a ha)
 rw [List.filter_append,List.filter_cons,if_neg (by simp [hx]),key A (fun y hy => h y (List.mem_append_left _ hy)),key B (fun y hy => h y (List.mem_append_right _ hy))]
theorem Sane.step {n:Nat} {t:TreeV} (h:Sane n t) (o:OrdV):Sane (n + 1) (t.apply o).1:=by
 rcases apply_cases t o with ⟨e,_⟩ | ⟨a0,a1,hc⟩
 ·rw [e];exact h.more (by omega)
 have u:=h.tick (a:=o.at_) a1;obtain ⟨t2,ht2⟩:∃ t2,t2 = t.tick o.at_:=⟨_,rfl⟩
 rw [← ht2] at u hc;have um:=u.more (m:=n + 1) (by omega);rcases hc with ⟨_,e⟩ | ⟨_,e⟩ | ⟨_,e⟩ | ⟨_,e⟩ <;> rw [e]
 ·rcases create_cases t2 o with ⟨c,_,e2⟩ | ⟨s,_,hs,_,_,_,_,_,e2⟩ <;> rw [e2]
  ·exact um
  ·obtain ⟨b0,b1⟩:=u.below hs;show Sane (n + 1) (TreeV.drained _ o.id);refine Sane.drained ?_ _;refine ⟨by have:=u.l0;show 0≤t2.last + 1;omega,by have:=u.l1;show t2.last + 1≤_;omega,u.n0,u.n1,?_,?_,by show (t2.nodes ++ [_]).length≤_;rw [List.length_append];have:=u.nl;simpa using this,um.gl⟩
   ·show (t2.nodes ++ [_]).Pairwise _;rw [List.pairwise_append];refine ⟨u.st,List.pairwise_singleton _ _,fun a ha b hb => ?_⟩;rw [List.mem_singleton.1 hb];have:=u.lw a ha;show a.id < t2.last + 1;omega
   ·intro x hx;rcases List.mem_append.1 (show x ∈ t2.nodes ++ [_] from hx) with hx | hx
    ·have:=u.lw x hx;exact ⟨this.1,this.2.1,by show x.id≤t2.last + 1;omega⟩
    ·rw [List.mem_singleton.1 hx];exact ⟨b0,by show o.id < t2.last + 1;omega,Int.le_refl _⟩
 ·rcases resize_cases t2 o with ⟨c,_,e2⟩ | ⟨x,_,hf,_,_,_,_,e2⟩ <;> rw [e2]
  ·exact um
  ·show Sane (n + 1) (TreeV.drained _ x.par);refine Sane.drained ?_ _;refine ⟨u.l0,um.l1,u.n0,u.n1,setNd_pw (fun _ => rfl) u.st,fun y hy => ?_,by show (setNd _ _ _).length≤_;unfold setNd;rw [List.length_map];exact um.nl,by show (t2.ghosts ++ [_]).length≤_;rw [List.length_append];have:=u.gl;simpa using this⟩;obtain ⟨z,hz,⟨_,e⟩ | ⟨_,e⟩⟩:=setNd_mem hy <;> (rw [e];exact u.lw z hz)
 ·rcases remove_cases t2 o with ⟨c,_,e2⟩ | ⟨x,t1,hf,_,e3,e2⟩ <;> rw [e2]
  ·exact um
  ·rw [e3];exact ⟨u.l0,um.l1,u.n0,u.n1,u.st.filter _,fun y hy => u.lw y ((List.mem_filter.1 hy).1),Nat.le_trans (List.length_filter_le ..) um.nl,by show (t2.ghosts ++ [_]).length≤_;rw [List.length_append];have:=u.gl;simpa using this⟩
 ·rcases bind_cases t2 o with ⟨c,_,e2⟩ | ⟨x,_,hf,_,_,_,e2⟩ <;> rw [e2]
  ·exact um
  ·refine ⟨u.l0,um.l1,u.n0,u.n1,setNd_pw (fun _ => rfl) u.st,fun y hy => ?_,by show (setNd _ _ _).length≤_;unfold setNd;rw [List.length_map];exact um.nl,um.gl⟩;obtain ⟨z,hz,⟨_,e⟩ | ⟨_,e⟩⟩:=setNd_mem hy <;> (rw [e];exact u.lw z hz)
def madeV (l:List OrdV):TreeV:=l.foldl (fun t o => (t.apply o).1) ⟨[],[],0,0⟩
theorem madeV_snoc (l:List OrdV) (o:OrdV):madeV (l ++ [o]) = ((madeV l).apply o).1:=by unfold madeV;rw [List.foldl_append];rfl
theorem sane_made (l:List OrdV):Sane l.length (madeV l):=by
 have key:∀ (l:List OrdV) (n:Nat) (t:TreeV),Sane n t→Sane (n + l.length) (l.foldl (fun t o => (t.apply o).1) t):=by
  intro l;induction l with
  | nil => intro n t h;exact h
  | cons o r ih =>
   intro n t h;have:=ih (n + 1) _ (h.step o);rw [List.foldl_cons,List.length_cons,show n + (r.length + 1) = n + 1 + r.length by omega];exact this
 have:=key l 0 _ Sane.zero;rw [Nat.zero_add] at this;exact this
end Go.Proofs.YtdfelohjdkcpkaaGreatDoor
namespace Go.Proofs.YtdfelohjdkcpkaaGreatDoor
open Go.RowKit
end Go.Proofs.YtdfelohjdkcpkaaGreatDoor
namespace Go.Proofs.YtdfelohjdkcpkaaGreatDoor
open Go.RowKit
theorem tsk_cellsT {w:World} {a:Option Addr} {l:List Tsk} (h:RecsAt 4 Tsk.cells w a l) {i:Nat} {d:Tsk} (hd:l[i]? = some d):∃ b off,a = some ⟨b,off,none⟩∧b < w.heap.size∧w.cell? ⟨b,off + i * 4,none⟩ = some (.int .i64 d.c)∧w.cell? ⟨b,off + i * 4 + 1,none⟩ = some (.int .i64 d.p)∧w.cell? ⟨b,off + i * 4 + 2,none⟩ = some (.int .i64 d.d)∧w.cell? ⟨b,off + i * 4 + 3,none⟩ = some (.int .i64 d.s):=by
 obtain ⟨b,off,ha,hb,hc⟩:=h i d hd;exact ⟨b,off,ha,hb,hc 0 _ rfl,hc 1 _ rfl,hc 2 _ rfl,hc 3 _ rfl⟩
set_option maxRecDepth 100000 in
set_option maxHeartbeats 3200000 in
theorem sameNode_eq (e:Nd) (a1 a2:Option Addr) (c1 c2:Nat) (w:World) (h1:(⟨e,a1,c1⟩:NdM).ok Any w) (h2:(⟨e,a2,c2⟩:NdM).ok Any w) :
 Calls Tryz.prog 108 #[.agg #[.int .i64 e.id,.int .i64 e.par,.int .i64 e.srv.k,.int .i64 e.srv.q,.int .i64 e.srv.t,.int .i64 e.pol,.slice a1 e.tasks.length c1],.agg #[.int .i64 e.id,.int .i64 e.par,.int .i64 e.srv.k,.int .i64 e.srv.q,.int .i64 e.srv.t,.int .i64 e.pol,.slice a2 e.tasks.length c2]] w fun x w' => x = .returned (.bool true)∧Gr w w':=by
 have hcap:=h1.2.2.2.2;dsimp only at hcap;go_enter Tryz.func108,Tryz.ntmps108;go_wp2_with fail;have gW:=((Gr.refl w).alloc (.cells #[.int .i64 e.id,.int .i64 e.par,.int .i64 e.srv.k,.int .i64 e.srv.q,.int .i64 e.srv.t,.int .i64 e.pol,.slice a1 e.tasks.length c1] 39)).alloc (.cells #[.int .i64 e.id,.int .i64 e.par,.int .i64 e.srv.k,.int .i64 e.srv.q,.int .i64 e.srv.t,.int .i64 e.pol,.slice a2 e.tasks.length c2] 39);go_loopw [44] (fun iv wr => ∃ k:Nat,k≤e.tasks.length∧iv = .int .i64 k∧Gr ((w.alloc (.cells #[.int .i64 e.id,.int .i64 e.par,.int .i64 e.srv.k,.int .i64 e.srv.q,.int .i64 e.srv.t,.int .i64 e.pol,.slice a1 e.tasks.length c1] 39)).alloc (.cells #[.int .i64 e.id,.int .i64 e.par,.int .i64 e.srv.k,.int .i64 e.srv.q,.int .i64 e.srv.t,.int .i64 e.pol,.slice a2 e.tasks.length c2] 39)) wr) (fun iv _ => e.tasks.length - (intOf iv).toNat);case atStart => exact ⟨0,Nat.zero_le _,rfl,Gr.refl _⟩
 case round =>
  obtain ⟨k,hk,rfl,hg⟩:=hrel;obtain ⟨cg,fg,sg⟩:=hg.cells;simp only [World.size_alloc] at cg fg sg;have k1:=fun o => cg w.heap.size o (by omega)
  have k2:=fun o => cg (w.heap.size + 1) o (by omega)
  clear cg fg;by_cases hlt:k < e.tasks.length
  ·obtain ⟨d,hd⟩:=get_some e.tasks k hlt;obtain ⟨b,off,hb0,hb,d0,d1,d2,d3⟩:=tsk_cellsT ((h1.gr gW).gr hg).1.1 hd;obtain ⟨b',off',hb0',hb',d0',d1',d2',d3'⟩:=tsk_cellsT ((h2.gr gW).gr hg).1.1 hd;dsimp only at hb0 hb0';subst hb0 hb0';replace hd:=Lib.hid hd;go_wp2_with fail;go_quiet (fail);go_wp2_with fail;go_roundw;case rel => exact ⟨k + 1,by omega,by go_num,hg.drewN _⟩
   case measure => simp [intOf];omega
  ·go_wp2_with fail;go_ret;exact ⟨rfl,gW.trans hg⟩
set_option maxRecDepth 100000 in
set_option maxHeartbeats 3200000 in
theorem sameNodes_eq (a1 a2:Option Addr) (c1 c2:Nat) (L1 L2:List NdM) (w:World) (h1:NodM Any w a1 L1) (h2:NodM Any w a2 L2) (he:L1.map (·.e) = L2.map (·.e)) (hm:L1.length≤maxLen) :
 Calls Tryz.prog 60 #[.slice a1 L1.length c1,.slice a2 L2.length c2] w fun x w' => x = .returned (.bool true)∧Gr w w':=by
 have hlen:L2.length = L1.length:=by simpa using (congrArg List.length he).symm
 have hsm:=fun e a1 a2 c1 c2 (w':World) h1 h2 => sameNode_eq e a1 a2 c1 c2 w' h1 h2
 replace hsm:=Lib.hid hsm;rw [hlen];replace hlen:=Lib.hid hlen;replace he:=Lib.hid he;unfold maxLen at hm;go_enter Tryz.func60,Tryz.ntmps60;go_wp2_with fail;go_loopw [13] (fun iv wr => ∃ k:Nat,k≤L1.length∧iv = .int .i64 k∧Gr w wr) (fun iv _ => L1.length - (intOf iv).toNat);case atStart => exact ⟨0,Nat.zero_le _,rfl,Gr.refl _⟩
 case round =>
  obtain ⟨k,hk,rfl,hg⟩:=hrel;by_cases hlt:k < L1.length
  ·obtain ⟨x,hx⟩:=get_some L1 k hlt;obtain ⟨y,hy⟩:=get_some L2 k (by rw [hlen.out];exact hlt);have hxy:y.e = x.e:=by
    have e1:(L1.map (·.e))[k]? = some x.e:=by simp [hx]
    have e2:(L2.map (·.e))[k]? = some y.e:=by simp [hy]
    rw [he.out,e2] at e1;exact Option.some.inj e1
   obtain ⟨y,a4,c4⟩:=y;dsimp only at hxy;subst hxy;obtain ⟨b,off,rfl,hb,_,d0,d1,d2,d3,d4,d5,d6⟩:=(h1.gr hg).get hx;obtain ⟨b',off',rfl,hb',_,e0,e1,e2,e3,e4,e5,e6⟩:=(h2.gr hg).get hy;have o1:=(h1.gr hg).2 x (get_mem hx);have o2:=(h2.gr hg).2 _ (get_mem hy);dsimp only at e0 e1 e2 e3 e4 e5 e6;have q0:=GrW.cell d0;have q1:=GrW.cell d1;have q2:=GrW.cell d2;have q3:=GrW.cell d3;have q4:=GrW.cell d4;have q5:=GrW.cell d5;have q6:=GrW.cell d6;have p0:=GrW.cell e0;have p1:=GrW.cell e1;have p2:=GrW.cell e2;have p3:=GrW.cell e3;have p4:=GrW.cell e4;have p5:=GrW.cell e5;have p6:=GrW.cell e6;replace hx:=Lib.hid hx;replace hy:=Lib.hid hy;go_wp2_with fail;refine wp_region_grows (by kernel_rfl) (by kernel_rfl) ?_;repeat (any_goals (first | go_big_quiet_step (first | (exact Calls.grows (hsm.out x.e x.a a4 x.c c4 _ (o1.gr (by exact GrW.gr _)) (o2.gr (by exact GrW.gr _))))) | quiet_step (first | (exact Calls.grows (hsm.out x.e x.a a4 x.c c4 _ (o1.gr (by exact GrW.gr _)) (o2.gr (by exact GrW.gr _)))))))
   refine wpQuiet_nil ?_;intro wp hwq;have gp:=GrW.of hwq;clear hwq;obtain ⟨cp,fp,sp⟩:=gp.cells;try simp only [size_drewN] at cp fp sp
   try simp only [World.size_alloc] at cp fp sp
   try simp only [World.size_drew] at cp fp sp
   try simp only [World.size_setCell] at cp fp sp
   clear q0 q1 q2 q3 q4 q5 q6 p0 p1 p2 p3 p4 p5 p6;go_wp2_with fail;go_roundw;case rel => exact ⟨k + 1,by omega,by go_num,hg.trans gp⟩
   case measure => simp [intOf];omega
  ·go_wp2_with fail;go_ret;exact ⟨rfl,hg⟩
set_option maxRecDepth 100000 in
set_option maxHeartbeats 3200000 in
theorem same_eqT (T U:TM) (w:World) (h1:TreeAt Any w T) (h2:TreeAt Any w U) (he:T.v = U.v) :
 Calls Tryz.prog 15 #[.agg T.row,.agg U.row] w fun x w' => x = .returned (.bool true)∧Gr w w':=by
 obtain ⟨N,an,cn,G,ag,cg,la,no⟩:=T;obtain ⟨N2,an2,cn2,G2,ag2,cg2,la2,no2⟩:=U;injection he with he1 he2 he3 he4
 dsimp only at he1 he2 he3 he4;subst he2 he3 he4;have hm:N.length≤maxLen:=Nat.le_trans h1.l1 (by unfold maxLen;omega);have hgm:=h1.l2;dsimp only at hgm;have gW:=((Gr.refl w).alloc (.cells (TM.mk N an cn G ag cg la no).row 27)).alloc (.cells (TM.mk N2 an2 cn2 G ag2 cg2 la no).row 27);have hsn:=sameNodes_eq an an2 cn cn2 N N2 _ ((h1.gr gW).n) ((h2.gr gW).n) he1 hm;replace hsn:=Lib.hid hsn;replace he1:=Lib.hid he1;go_enter Tryz.func15,Tryz.ntmps15;go_wp2_with fail;refine hsn.out.mono ?_;rintro e w1 ⟨rfl,g1⟩;have gq:=gW.trans g1;obtain ⟨cg,fg,sg⟩:=g1.cells;simp only [World.size_alloc] at cg fg sg;have k1:=fun o => cg w.heap.size o (by omega)
 have k2:=fun o => cg (w.heap.size + 1) o (by omega)
 clear cg fg;go_wp2_with fail;clear k1 k2;go_loopw [38] (fun iv wr => ∃ k:Nat,k≤G.length∧iv = .int .i64 k∧Gr w1 wr) (fun iv _ => G.length - (intOf iv).toNat);case atStart => exact ⟨0,Nat.zero_le _,rfl,Gr.refl _⟩
 case round =>
  obtain ⟨k,hk,rfl,hg⟩:=hrel;obtain ⟨cg,fg,sg2⟩:=(g1.trans hg).cells;simp only [World.size_alloc] at cg fg sg2;have k1:=fun o => cg w.heap.size o (by omega)
  have k2:=fun o => cg (w.heap.size + 1) o (by omega)
  clear cg fg;by_cases hlt:k < G.length
  ·obtain ⟨x,hx⟩:=get_some G k hlt;obtain ⟨b,off,hb0,hb,_,d0,d1,d2,d3,d4⟩:=gh_get ((h1.gr gq).gr hg).g hx;obtain ⟨b',off',hb0',hb',_,e0,e1,e2,e3,e4⟩:=gh_get ((h2.gr gq).gr hg).g hx;dsimp only at hb0 hb0';subst hb0 hb0';replace hx:=Lib.hid hx;go_wp2_with fail;go_quiet (fail);go_wp2_with fail;go_roundw;case rel => exact ⟨k + 1,by omega,by go_num,hg.drewN _⟩
   case measure => simp [intOf];omega
  ·go_wp2_with fail;go_ret;exact ⟨rfl,gq.trans hg⟩
end Go.Proofs.YtdfelohjdkcpkaaGreatDoor
namespace Go.Proofs.YtdfelohjdkcpkaaGreatDoor
open Go.RowKit
theorem leg_nil {s:Srv} (h:s.leg = true):kidsErr s [] = none:=kids_nil (by unfold parOk;rw [h,Bool.or_true])
structure Fit (t:TreeV):Prop where
 ok:∀ p s,t.server p = some s→kidsErr s (t.counted p) = none
 gp:∀ g ∈ t.ghosts,g.par≤t.last
 up:∀ x ∈ t.nodes,x.par = 0 ∨ ∃ y ∈ t.nodes,y.id = x.par
 lg:∀ x ∈ t.nodes,x.srv.leg = true
theorem root_nil:kidsErr rootS [] = none:=kids_nil (by decide)
theorem Fit.zero:Fit ⟨[],[],0,0⟩:=by
 refine ⟨fun p s h => ?_,by simp,by simp,by simp⟩;rcases server_at h with ⟨rfl,rfl⟩ | ⟨_,x,hf,_⟩
 ·exact root_nil
 ·exact absurd (find_mem hf).1 (by simp)
theorem Fit.less {t t':TreeV} (h:Fit t) (hn:t'.nodes = t.nodes) (hl:t'.last = t.last) (hg:t'.ghosts.Sublist t.ghosts):Fit t':=by
 have hs:∀ p,t'.server p = t.server p:=fun p => by unfold TreeV.server TreeV.find;rw [hn]
 refine ⟨fun p s hp => ?_,fun g hm => by rw [hl];exact h.gp g (hg.subset hm),by rw [hn];exact h.up,by rw [hn];exact h.lg⟩;refine kids_sub ?_ (h.ok p s (by rw [← hs];exact hp));unfold TreeV.counted;rw [hn];exact (List.Sublist.refl _).append ((hg.filter _).map _)
theorem counted_map {t:TreeV} {f:Gh→Gh} (hf:∀ g,(f g).par = g.par∧(f g).srv = g.srv∧g.till≤(f g).till) (p:Int):({t with ghosts:=t.ghosts.map f}:TreeV).counted p = t.counted p:=by
 unfold TreeV.counted;dsimp only;congr 1;rw [List.filter_map,List.map_map];have e1:((fun g:Gh => decide (g.par = p)) ∘ f) = fun g => decide (g.par = p):=by
  funext g;show decide ((f g).par = p) = _;rw [(hf g).1]
 rw [e1];exact List.map_congr_left (fun g _ => (hf g).2.1)
theorem drained_counted (t:TreeV) (p q:Int):(t.drained p).counted q = t.counted q:=by
 obtain ⟨f,h1,h2,_⟩:=drained_at t p;rw [h2];exact counted_map h1 q
theorem drained_nodes (t:TreeV) (p:Int):(t.drained p).nodes = t.nodes:=by
 obtain ⟨f,h1,h2,_⟩:=drained_at t p;rw [h2]
theorem drained_last (t:TreeV) (p:Int):(t.drained p).last = t.last:=by
 obtain ⟨f,h1,h2,_⟩:=drained_at t p;rw [h2]
theorem drained_server (t:TreeV) (p q:Int):(t.drained p).server q = t.server q:=by
 unfold TreeV.server TreeV.find;rw [drained_nodes]
theorem Fit.drained {t:TreeV} (h:Fit t) (p:Int):Fit (t.drained p):=by
 refine ⟨fun q s hq => ?_,fun g hg => ?_,by rw [drained_nodes];exact h.up,by rw [drained_nodes];exact h.lg⟩
 ·rw [drained_counted];exact h.ok q s (by rw [← drained_server t p];exact hq)
 ·rw [drained_last];obtain ⟨f,h1,h2,_⟩:=drained_at t p;rw [h2] at hg;obtain ⟨z,hz,rfl⟩:=List.mem_map.1 hg;rw [(h1 z).1];exact h.gp z hz
theorem counted_nil {t:TreeV} {p:Int} (h1:∀ x ∈ t.nodes,x.par ≠ p) (h2:∀ g ∈ t.ghosts,g.par ≠ p):t.counted p = []:=by
 unfold TreeV.counted;rw [List.filter_eq_nil_iff.2 (fun a ha => by simpa using h1 a ha),List.filter_eq_nil_iff.2 (fun a ha => by simpa using h2 a ha)];rfl
theorem counted_no {t:TreeV} {p:Int} (h:t.counted p = []):(∀ x ∈ t.nodes,x.par ≠ p)∧∀ g ∈ t.ghosts,g.par ≠ p:=by
 unfold TreeV.counted at h;rw [List.append_eq_nil_iff,List.map_eq_nil_iff,List.map_eq_nil_iff,List.filter_eq_nil_iff,List.filter_eq_nil_iff] at h;exact ⟨fun x hx => by simpa using h.1 x hx,fun g hg => by simpa using h.2 g hg⟩
theorem Fit.create {n:Nat} {t:TreeV} (hS:Sane n t) (h:Fit t) {o:OrdV} {s:Srv} (hl:o.srv.leg = true) (hs:t.server o.id = some s) (hk:kidsErr s (t.counted o.id ++ [o.srv]) = none):Fit {t with last:=t.last + 1,nodes:=t.nodes ++ [(⟨t.last + 1,o.id,o.srv,0,[]⟩:Nd)]}:=by
 obtain ⟨b0,b1⟩:=hS.below hs;have hcnt:∀ p,(({t with last:=t.last + 1,nodes:=t.nodes ++ [(⟨t.last + 1,o.id,o.srv,0,[]⟩:Nd)]}:TreeV).counted p).Perm (t.counted p ++ if o.id = p then [o.srv] else []):=by
  intro p;unfold TreeV.counted;dsimp only;rw [List.filter_append,List.map_append];by_cases hp:o.id = p
  ·rw [if_pos hp,List.filter_cons,if_pos (by simpa using hp)];dsimp only [List.filter_nil,List.map_cons,List.map_nil];rw [List.append_assoc,List.append_assoc];exact List.Perm.append_left _ List.perm_append_comm
  ·rw [if_neg hp,List.filter_cons,if_neg (by simpa using hp)];simp
 refine ⟨fun p s2 hp => ?_,fun g hg => ?_,fun x hx => ?_,fun x hx => ?_⟩
 ·rw [kids_perm (hcnt p)];rcases server_at hp with ⟨rfl,rfl⟩ | ⟨h0,x,hf,rfl⟩
  ·by_cases hp:o.id = 0
   ·rw [if_pos hp];rw [hp] at hs hk;have:s = rootS:=by unfold TreeV.server at hs;rw [if_pos rfl] at hs;exact (Option.some.inj hs).symm
    rw [← this];exact hk
   ·rw [if_neg hp,List.append_nil];exact h.ok 0 rootS rfl
  ·unfold TreeV.find at hf;dsimp only at hf;rw [List.find?_append] at hf;cases hf2:t.nodes.find? (fun n => decide (n.id = p)) with
   | some y =>
    rw [hf2] at hf;obtain rfl:y = x:=by simpa using hf
    have hsp:t.server p = some y.srv:=by unfold TreeV.server TreeV.find;rw [if_neg h0,hf2];rfl
    by_cases hp:o.id = p
    ·rw [if_pos hp];rw [hp] at hs hk;rw [hsp] at hs;rw [Option.some.inj hs];exact hk
    ·rw [if_neg hp,List.append_nil];exact h.ok p _ hsp
   | none =>
    rw [hf2] at hf;simp only [Option.none_or,List.find?_cons,List.find?_nil] at hf;have hlp:t.last + 1 = p:=by
     by_cases e:t.last + 1 = p
     ·exact e
     ·rw [decide_eq_false e] at hf;cases hf
    rw [decide_eq_true hlp] at hf;have hx:=Option.some.inj hf;rw [← hx];rw [if_neg (by omega),counted_nil (fun y hy => by have:=hS.lw y hy;omega) (fun g hg => by have:=h.gp g hg;omega)];exact leg_nil hl
 ·have:=h.gp g hg;show g.par≤t.last + 1;omega
 ·show x.par = 0 ∨ ∃ y ∈ t.nodes ++ _,y.id = x.par;rcases List.mem_append.1 (show x ∈ t.nodes ++ [_] from hx) with hx | hx
  ·rcases h.up x hx with h1 | ⟨y,hy,e⟩
   ·exact .inl h1
   ·exact .inr ⟨y,List.mem_append_left _ hy,e⟩
  ·rw [List.mem_singleton.1 hx];rcases server_at hs with ⟨h1,_⟩ | ⟨_,y,hf,_⟩
   ·exact .inl h1
   ·obtain ⟨hm,e⟩:=find_mem hf;exact .inr ⟨y,List.mem_append_left _ hm,e⟩
 ·rcases List.mem_append.1 (show x ∈ t.nodes ++ [_] from hx) with hx | hx
  ·exact h.lg x hx
  ·rw [List.mem_singleton.1 hx];exact hl
theorem find_setNd {l:List Nd} {id p:Int} {f:Nd→Nd} (hf:∀ x,(f x).id = x.id):(setNd l id f).find? (fun n => decide (n.id = p)) = (l.find? fun n => decide (n.id = p)).map fun n => if n.id = id then f n else n:=by
 unfold setNd;rw [List.find?_map];congr 1;congr 1;funext n;show decide ((if n.id = id then f n else n).id = p) = _;split
 ·rw [hf]
 ·rfl
theorem swap_perm {α:Type} (A B G:List α) (a b:α):(A ++ (a :: B) ++ (G ++ [b])).Perm (A ++ (b :: B) ++ G ++ [a]):=by
 have h1:(A ++ (a :: B) ++ (G ++ [b])).Perm (a :: b :: (A ++ B ++ G)):=by
  refine (List.Perm.append_right _ List.perm_middle).trans ?_;rw [List.cons_append];refine List.Perm.cons a ?_;rw [← List.append_assoc];exact List.perm_append_singleton _ _
 have h2:(A ++ (b :: B) ++ G ++ [a]).Perm (a :: b :: (A ++ B ++ G)):=by
  refine (List.perm_append_singleton _ _).trans ?_;refine List.Perm.cons a ?_;refine (List.Perm.append_right _ List.perm_middle).trans ?_;rw [List.cons_append]
 exact h1.trans h2.symm
theorem Fit.resize {n:Nat} {t:TreeV} (hS:Sane n t) (h:Fit t) {o:OrdV} {x:Nd} (hl:o.srv.leg = true) (hf:t.find o.id = some x) (hc:t.counted o.id = []) (hk:kidsErr ((t.server x.par).getD rootS) (t.counted x.par ++ [o.srv]) = none):Fit {t with nodes:=setNd t.nodes o.id fun n => {n with srv:=o.srv},ghosts:=t.ghosts ++ [(⟨x.par,x.srv,0⟩:Gh)]}:=by
 obtain ⟨A,B,hN,hid,hot⟩:=find_split hS hf;obtain ⟨hm,_⟩:=find_mem hf;have hxl:=hS.lw x hm;obtain ⟨c1,c2⟩:=counted_no hc;have hset:setNd t.nodes o.id (fun n => {n with srv:=o.srv}) = A ++ ({x with srv:=o.srv}:Nd) :: B:=by rw [hN];exact set_split hid hot
 refine ⟨fun p s hp => ?_,fun g hg => ?_,fun y hy => ?_,fun y hy => ?_⟩
 ·by_cases hpo:p = o.id
  ·have hs:s = o.srv:=by
    rcases server_at hp with ⟨h1,_⟩ | ⟨_,y,hfy,rfl⟩
    ·omega
    ·unfold TreeV.find at hfy;dsimp only at hfy;rw [find_setNd (f:=fun n => {n with srv:=o.srv}) (fun _ => rfl),hpo,show t.nodes.find? _ = some x from hf] at hfy;dsimp only [Option.map_some] at hfy;rw [if_pos hid] at hfy;rw [← Option.some.inj hfy]
   rw [hs,counted_nil (fun y hy => ?_) (fun g hg => ?_)]
   ·exact leg_nil hl
   ·obtain ⟨z,hz,⟨_,e⟩ | ⟨_,e⟩⟩:=setNd_mem hy <;> (rw [hpo,e];exact c1 z hz)
   ·rcases List.mem_append.1 (show g ∈ t.ghosts ++ [_] from hg) with hg | hg
    ·rw [hpo];exact c2 g hg
    ·rw [List.mem_singleton.1 hg];show x.par ≠ p;omega
  ·have hs:t.server p = some s:=by
    rcases server_at hp with ⟨rfl,rfl⟩ | ⟨h0,y,hfy,rfl⟩
    ·rfl
    ·unfold TreeV.find at hfy;dsimp only at hfy;rw [find_setNd (f:=fun n => {n with srv:=o.srv}) (fun _ => rfl)] at hfy;unfold TreeV.server TreeV.find;rw [if_neg h0];cases hf2:t.nodes.find? (fun n => decide (n.id = p)) with
     | none => rw [hf2] at hfy;cases hfy
     | some z =>
      rw [hf2] at hfy;have hz:z.id ≠ o.id:=by have:=List.find?_some hf2;simp at this;omega
      dsimp only [Option.map_some] at hfy;rw [if_neg hz] at hfy;rw [Option.some.inj hfy];rfl
   have hcp:(({t with nodes:=setNd t.nodes o.id fun n => {n with srv:=o.srv},ghosts:=t.ghosts ++ [(⟨x.par,x.srv,0⟩:Gh)]}:TreeV).counted p).Perm (t.counted p ++ if x.par = p then [o.srv] else []):=by
    unfold TreeV.counted;dsimp only;rw [hset,hN];by_cases hp:x.par = p
    ·rw [if_pos hp];simp only [List.filter_append,List.filter_cons,List.map_append,hp,decide_true,if_true,List.map_cons,List.filter_nil,List.map_nil];exact swap_perm _ _ _ _ _
    ·rw [if_neg hp];simp only [List.filter_append,List.filter_cons,List.map_append,decide_eq_false hp,List.filter_nil,List.append_nil,Bool.false_eq_true,if_false];exact List.Perm.refl _
   rw [kids_perm hcp];by_cases hp:x.par = p
   ·rw [if_pos hp];rw [hp,hs] at hk;exact hk
   ·rw [if_neg hp,List.append_nil];exact h.ok p s hs
 ·rcases List.mem_append.1 (show g ∈ t.ghosts ++ [_] from hg) with hg | hg
  ·exact h.gp g hg
  ·rw [List.mem_singleton.1 hg];show x.par≤t.last;omega
 ·show y.par = 0 ∨ ∃ z ∈ setNd t.nodes o.id _,z.id = y.par;have hup:∀ z ∈ t.nodes,z.par = 0 ∨ ∃ v ∈ setNd t.nodes o.id (fun n => {n with srv:=o.srv}),v.id = z.par:=fun z hz => by
   rcases h.up z hz with h1 | ⟨v,hv,e⟩
   ·exact .inl h1
   ·refine .inr ⟨if v.id = o.id then {v with srv:=o.srv} else v,List.mem_map.2 ⟨v,hv,rfl⟩,?_⟩;rw [← e];split <;> rfl
  obtain ⟨z,hz,⟨_,e⟩ | ⟨_,e⟩⟩:=setNd_mem hy
  ·rw [e];exact hup z hz
  ·rw [e];exact hup z hz
 ·obtain ⟨z,hz,⟨_,e⟩ | ⟨_,e⟩⟩:=setNd_mem hy
  ·rw [e];exact h.lg z hz
  ·rw [e];exact hl
theorem del_perm {α:Type} (A B G:List α) (a:α):(A ++ B ++ (G ++ [a])).Perm (A ++ (a :: B) ++ G):=by
 have h1:(A ++ B ++ (G ++ [a])).Perm (a :: (A ++ B ++ G)):=by
  rw [← List.append_assoc];exact List.perm_append_singleton _ _
 have h2:(A ++ (a :: B) ++ G).Perm (a :: (A ++ B ++ G)):=by
  refine (List.Perm.append_right _ List.perm_middle).trans ?_;rw [List.cons_append]
 exact h1.trans h2.symm
theorem Fit.remove {n:Nat} {t:TreeV} (hS:Sane n t) (h:Fit t) {o:OrdV} {x:Nd} (hf:t.find o.id = some x) (hc:t.counted o.id = []) (m:Int):Fit {t with nodes:=t.nodes.filter fun x => decide (x.id ≠ o.id),ghosts:=t.ghosts ++ [(⟨x.par,x.srv,m⟩:Gh)]}:=by
 obtain ⟨A,B,hN,hid,hot⟩:=find_split hS hf;obtain ⟨hm,_⟩:=find_mem hf;have hxl:=hS.lw x hm;obtain ⟨c1,c2⟩:=counted_no hc;have hset:t.nodes.filter (fun x => decide (x.id ≠ o.id)) = A ++ B:=by rw [hN];exact del_split hid hot
 refine ⟨fun p s hp => ?_,fun g hg => ?_,fun y hy => ?_,fun y hy => h.lg y ((List.mem_filter.1 hy).1)⟩
 ·have hs:t.server p = some s:=by
   rcases server_at hp with ⟨rfl,rfl⟩ | ⟨h0,y,hfy,rfl⟩
   ·rfl
   ·unfold TreeV.find at hfy;dsimp only at hfy;unfold TreeV.server TreeV.find;rw [if_neg h0];have hy:=find_mem (t:={t with nodes:=t.nodes.filter fun x => decide (x.id ≠ o.id)}) hfy;have hyo:y.id ≠ o.id:=by have:=(List.mem_filter.1 hy.1).2;simpa using this
    have hpo:p ≠ o.id:=fun e => hyo (hy.2.trans e)
    rw [List.find?_filter] at hfy;have e1:(fun a:Nd => decide (decide (a.id ≠ o.id) = true∧decide (a.id = p) = true)) = fun a => decide (a.id = p):=by
     funext a;by_cases ha:a.id = p
     ·rw [decide_eq_true ha,decide_eq_true (p:=a.id ≠ o.id) (by omega)];decide
     ·rw [decide_eq_false ha];simp
    rw [e1] at hfy;rw [hfy];rfl
  have hcp:(({t with nodes:=t.nodes.filter fun x => decide (x.id ≠ o.id),ghosts:=t.ghosts ++ [(⟨x.par,x.srv,m⟩:Gh)]}:TreeV).counted p).Perm (t.counted p):=by
   unfold TreeV.counted;dsimp only;rw [hset,hN];by_cases hp:x.par = p
   ·simp only [List.filter_append,List.filter_cons,List.map_append,hp,decide_true,if_true,List.map_cons,List.filter_nil,List.map_nil];exact del_perm _ _ _ _
   ·simp only [List.filter_append,List.filter_cons,List.map_append,decide_eq_false hp,List.filter_nil,List.append_nil,Bool.false_eq_true,if_false];exact List.Perm.refl _
  rw [kids_perm hcp];exact h.ok p s hs
 ·rcases List.mem_append.1 (show g ∈ t.ghosts ++ [_] from hg) with hg | hg
  ·exact h.gp g hg
  ·rw [List.mem_singleton.1 hg];show x.par≤t.last;omega
 ·show y.par = 0 ∨ ∃ z ∈ t.nodes.filter (fun x => decide (x.id ≠ o.id)),z.id = y.par;have hyn:=(List.mem_filter.1 hy).1;rcases h.up y hyn with h1 | ⟨v,hv,e⟩
  ·exact .inl h1
  ·refine .inr ⟨v,List.mem_filter.2 ⟨hv,?_⟩,e⟩;have:=c1 y hyn;rw [e];simpa using this
theorem Fit.bind {t:TreeV} (h:Fit t) (id:Int) (f:Nd→Nd) (hf:∀ x,(f x).id = x.id∧(f x).par = x.par∧(f x).srv = x.srv):Fit {t with nodes:=setNd t.nodes id f}:=by
 have key:∀ z:Nd,(if z.id = id then f z else z).id = z.id∧(if z.id = id then f z else z).par = z.par∧(if z.id = id then f z else z).srv = z.srv:=fun z => by
  split
  ·exact hf z
  ·exact ⟨rfl,rfl,rfl⟩
 have hcn:∀ p,({t with nodes:=setNd t.nodes id f}:TreeV).counted p = t.counted p:=fun p => by
  unfold TreeV.counted setNd;dsimp only;rw [List.filter_map,List.map_map];have e1:((fun n:Nd => decide (n.par = p)) ∘ fun n => if n.id = id then f n else n) = fun n => decide (n.par = p):=by
   funext g;show decide ((if g.id = id then f g else g).par = p) = _;rw [(key g).2.1]
  rw [e1];congr 1;exact List.map_congr_left (fun g _ => (key g).2.2)
 have hsv:∀ p,({t with nodes:=setNd t.nodes id f}:TreeV).server p = t.server p:=fun p => by
  unfold TreeV.server TreeV.find;by_cases h0:p = 0
  ·rw [if_pos h0,if_pos h0]
  ·rw [if_neg h0,if_neg h0];dsimp only;rw [find_setNd (fun x => (hf x).1),Option.map_map];congr 1;funext z;exact (key z).2.2
 refine ⟨fun p s hp => by rw [hcn];exact h.ok p s (by rw [← hsv];exact hp),h.gp,fun y hy => ?_,fun y hy => ?_⟩
 ·have hup:∀ z ∈ t.nodes,z.par = 0 ∨ ∃ v ∈ setNd t.nodes id f,v.id = z.par:=fun z hz => by
   rcases h.up z hz with h1 | ⟨v,hv,e⟩
   ·exact .inl h1
   ·exact .inr ⟨_,List.mem_map.2 ⟨v,hv,rfl⟩,by rw [(key v).1];exact e⟩
  obtain ⟨z,hz,rfl⟩:=List.mem_map.1 (show y ∈ t.nodes.map _ from hy);rw [(key z).2.1];exact hup z hz
 ·obtain ⟨z,hz,rfl⟩:=List.mem_map.1 (show y ∈ t.nodes.map _ from hy);rw [(key z).2.2];exact h.lg z hz
theorem Fit.step {n:Nat} {t:TreeV} (hS:Sane n t) (h:Fit t) (o:OrdV):Fit (t.apply o).1:=by
 rcases apply_cases t o with ⟨e,_⟩ | ⟨a0,a1,hc⟩
 ·rw [e];exact h
 have u:=hS.tick (a:=o.at_) a1;have hF:Fit (t.tick o.at_):=h.less rfl rfl List.filter_sublist;rcases hc with ⟨_,e⟩ | ⟨_,e⟩ | ⟨_,e⟩ | ⟨_,e⟩ <;> rw [e]
 ·rcases create_cases (t.tick o.at_) o with ⟨c,_,e2⟩ | ⟨s,hl,hs,_,_,_,_,hk,e2⟩ <;> rw [e2]
  ·exact hF
  ·exact (hF.create u hl hs hk).drained _
 ·rcases resize_cases (t.tick o.at_) o with ⟨c,_,e2⟩ | ⟨x,hl,hf,hcn,_,_,hk,e2⟩ <;> rw [e2]
  ·exact hF
  ·exact (hF.resize u hl hf hcn hk).drained _
 ·rcases remove_cases (t.tick o.at_) o with ⟨c,_,e2⟩ | ⟨x,t1,hf,hcn,e3,e2⟩ <;> rw [e2]
  ·exact hF
  ·have:=hF.remove u hf hcn (if kidsErr ((t1.server x.par).getD rootS) (t1.counted x.par) = none then (t.tick o.at_).now + drainI ((t1.server x.par).getD rootS) (t1.counted x.par) else 0);rw [e3] at this ⊢;exact this
 ·rcases bind_cases (t.tick o.at_) o with ⟨c,_,e2⟩ | ⟨x,_,hf,_,_,_,e2⟩ <;> rw [e2]
  ·exact hF
  ·exact hF.bind _ _ (fun _ => ⟨rfl,rfl,rfl⟩)
theorem fit_made (l:List OrdV):Fit (madeV l):=by
 have key:∀ (l:List OrdV) (n:Nat) (t:TreeV),Sane n t→Fit t→Fit (l.foldl (fun t o => (t.apply o).1) t):=by
  intro l;induction l with
  | nil => intro n t _ h;exact h
  | cons o r ih => intro n t hS h;exact ih (n + 1) _ (hS.step o) (h.step hS o)
 exact key l 0 _ Sane.zero Fit.zero
end Go.Proofs.YtdfelohjdkcpkaaGreatDoor
namespace Go.Proofs.YtdfelohjdkcpkaaGreatDoor
open Go.RowKit
theorem server_some {t:TreeV} {id:Int} (h:id = 0 ∨ ∃ y ∈ t.nodes,y.id = id):∃ s,t.server id = some s:=by
 unfold TreeV.server;by_cases h0:id = 0
 ·exact ⟨_,by rw [if_pos h0]⟩
 ·rw [if_neg h0];rcases h with h | ⟨y,hy,e⟩
  ·exact absurd h h0
  ·unfold TreeV.find;cases hf:t.nodes.find? (fun n => decide (n.id = id)) with
   | none =>
    have:=List.find?_eq_none.1 hf y hy;simp at this;exact absurd e this
   | some x => exact ⟨_,rfl⟩
theorem Fit.at {t:TreeV} (h:Fit t) {id:Int} (hi:id = 0 ∨ ∃ y ∈ t.nodes,y.id = id):kidsErr ((t.server id).getD rootS) (t.counted id) = none:=by
 obtain ⟨s,hs⟩:=server_some hi;have:=h.ok id s hs;rw [hs];exact this
theorem par_resize {t:TreeV} (h:Fit t) {id:Int} {x:Nd} {f:Nd→Nd} (hf:∀ x,(f x).id = x.id) (hx:t.find id = some x):x.par = 0 ∨ ∃ y ∈ setNd t.nodes id f,y.id = x.par:=by
 rcases h.up x (find_mem hx).1 with h1 | ⟨v,hv,e⟩
 ·exact .inl h1
 ·refine .inr ⟨_,List.mem_map.2 ⟨v,hv,rfl⟩,?_⟩;rw [← e];split
  ·exact hf v
  ·rfl
theorem par_remove {n:Nat} {t:TreeV} (hS:Sane n t) (h:Fit t) {id:Int} {x:Nd} (hx:t.find id = some x):x.par = 0 ∨ ∃ y ∈ t.nodes.filter (fun z => decide (z.id ≠ id)),y.id = x.par:=by
 obtain ⟨hm,hid⟩:=find_mem hx;have hl:=hS.lw x hm;rcases h.up x hm with h1 | ⟨v,hv,e⟩
 ·exact .inl h1
 ·exact .inr ⟨v,List.mem_filter.2 ⟨hv,by simp;omega⟩,e⟩
end Go.Proofs.YtdfelohjdkcpkaaGreatDoor
namespace Go.Proofs.YtdfelohjdkcpkaaGreatDoor
open Go.RowKit
abbrev sA:Srv:=⟨1,2,10⟩
theorem ask_sA (x:Int) (hx:0≤x):demI [sA] x≤givI (rowI rootS) x:=by
 have e1:demI [sA] x = x / 10 * 2:=by
  show 0 + askedI sA x = _;unfold askedI;rw [if_neg (by decide)];show 0 + x / 10 * 2 = _;omega
 have e2:rowI rootS = ⟨0,1,1⟩:=by rfl
 rw [e1,e2];unfold givI givM;dsimp only;split <;> omega
theorem kids_sA:kidsErr rootS [sA] = none:=by
 refine kids_of (by decide) (by decide) (by decide) ?_;unfold belowB;rw [List.all_eq_true];intro x hx;have:=stepsL_ok [sA] 4096 x hx;exact decide_eq_true (ask_sA x (by omega))
theorem kids_sB:kidsErr sA [⟨1,1,10⟩] ≠ none:=by
 intro h;obtain ⟨h1,h2,h3,h4⟩:=kids_parts h;have:=below_all h1 (by decide) h4 10 (by decide);exact absurd this (by decide)
theorem drain_sA:drainI rootS [sA] = 2:=drainI_of (d:=2) (by decide) (by decide) (by decide) (fun k h1 h2 => by
 obtain rfl:k = 1:=by omega
 decide)
theorem ali1:(⟨[],[],0,0⟩:TreeV).apply ⟨1,0,⟨1,2,10⟩,0,[],0⟩ = (⟨[⟨1,0,⟨1,2,10⟩,0,[]⟩],[],1,0⟩,0,1):=by
 have hl:(⟨1,2,10⟩:Srv).leg = true:=by decide
 have hk:=kids_sA;simp [TreeV.apply,TreeV.tick,TreeV.create,TreeV.server,TreeV.find,TreeV.depth,TreeV.depthF,TreeV.counted,TreeV.drained,hl,hk]
theorem ali2:((⟨[⟨1,0,⟨1,2,10⟩,0,[]⟩],[],1,0⟩:TreeV).apply ⟨1,1,⟨1,1,10⟩,0,[],0⟩).2 = (4,0):=by
 have hl:(⟨1,1,10⟩:Srv).leg = true:=by decide
 have hk:=kids_sB;simp [TreeV.apply,TreeV.tick,TreeV.create,TreeV.server,TreeV.find,TreeV.depth,TreeV.depthF,TreeV.counted,hl,hk]
theorem ali3:((⟨[⟨1,0,⟨1,2,10⟩,0,[]⟩],[],1,0⟩:TreeV).apply ⟨3,1,⟨0,0,0⟩,0,[],5⟩) = (⟨[],[⟨0,⟨1,2,10⟩,7⟩],1,5⟩,0,1):=by
 have hk:=kids_sA;have hd:=drain_sA;simp [TreeV.apply,TreeV.tick,TreeV.remove,TreeV.loose,TreeV.server,TreeV.find,TreeV.counted,hk,hd];exact ⟨by decide,by decide⟩
end Go.Proofs.YtdfelohjdkcpkaaGreatDoor
namespace Go.Proofs.YtdfelohjdkcpkaaGreatDoor
open Go.RowKit
abbrev NdM.obj (x:NdM):Obj:=.cells #[.int .i64 x.e.id,.int .i64 x.e.par,.int .i64 x.e.srv.k,.int .i64 x.e.srv.q,.int .i64 x.e.srv.t,.int .i64 x.e.pol,.slice x.a x.e.tasks.length x.c] 39
theorem nd_cap {K:Nat→Prop} {w:World} {x:NdM} (h:x.ok K w):x.e.tasks.length * 32≤140737488351232:=h.2.2.2.2
structure OwnT (B:Nat) (w:World) (T:TM):Prop where
 n:w.ownsRow B 39 7 (.slice T.an T.N.length T.cn) T.N.length (T.N.flatMap NdM.cells)
 g:w.ownsRow B 43 5 (.slice T.ag T.G.length T.cg) T.G.length (T.G.flatMap Gh.cells)
 k:∀ x ∈ T.N,x.ok (fun b => B≤b) w
 d:∀ x ∈ T.N,∀ ad,x.a = some ad→x.e.tasks ≠ []→(Value.slice T.an T.N.length T.cn).ownBlock ≠ some ad.block
 dg:∀ x ∈ T.N,∀ ad,x.a = some ad→x.e.tasks ≠ []→(Value.slice T.ag T.G.length T.cg).ownBlock ≠ some ad.block
 f:∀ x ∈ T.N,∀ ad,x.a = some ad→x.e.tasks ≠ []→∀ o,w.frozen? ⟨ad.block,o,none⟩ = false
 l1:T.N.length≤1000000
 l2:T.G.length≤1000000
theorem owns_base {w:World} {B B':Nat} {e:TypeId} {size:Nat} {v:Value} {n:Nat} {xs:List Value} (h:w.ownsRow B e size v n xs) (hb:B'≤B):w.ownsRow B' e size v n xs:=by
 refine ⟨h.1,?_⟩;rcases h.2 with hn | ⟨g,cap,cur,h1,h2,h3⟩
 ·exact .inl hn
 ·exact .inr ⟨g,cap,cur,h1,by omega,h3⟩
theorem OwnT.base {B B':Nat} {w:World} {T:TM} (h:OwnT B w T) (hb:B'≤B):OwnT B' w T:=⟨owns_base h.n hb,owns_base h.g hb,fun x hx => (h.k x hx).mono (fun b _ hk => by omega),h.d,h.dg,h.f,h.l1,h.l2⟩
theorem OwnT.gr {B:Nat} {w w':World} {T:TM} (h:OwnT B w T) (g:Gr w w'):OwnT B w' T:=⟨owns_gr h.n g,owns_gr h.g g,fun x hx => (h.k x hx).gr g,h.d,h.dg,fun x hx ad ha ht o => by rw [g.cells.2.1 _ _ ((h.k x hx).1.1.lt ha ht)];exact h.f x hx ad ha ht o,h.l1,h.l2⟩
theorem owns_gx {S:List Nat} {w w':World} {base:Nat} {e:TypeId} {size:Nat} {v:Value} {n:Nat} {xs:List Value} (h:w.ownsRow base e size v n xs) (g:GrX S w w') (hS:∀ k,v.ownBlock = some k→k ∉ S):w'.ownsRow base e size v n xs:=by
 refine ⟨h.1,?_⟩;rcases h.2 with hn | ⟨b,cap,cur,h1,h2,h3,h4⟩
 ·exact .inl hn
 ·refine .inr ⟨b,cap,cur,h1,h2,?_,h4⟩;rw [g.block b (Array.getElem?_eq_some_iff.1 h3).1 (hS b (by rw [h1];rfl))];exact h3
theorem OwnT.grx {B:Nat} {S:List Nat} {w w':World} {T:TM} (h:OwnT B w T) (g:GrX S w w') (hS:∀ y,y ∈ S→y < B):OwnT B w' T :=
 ⟨owns_gx h.n g (fun k hk hm => by have:=(owns_lt h.n k hk).2;have:=hS k hm;omega),owns_gx h.g g (fun k hk hm => by have:=(owns_lt h.g k hk).2;have:=hS k hm;omega),fun x hx => (h.k x hx).grx g (fun y hy hk => by have:=hS y hy;omega),h.d,h.dg,fun x hx ad ha ht o => by
  have h1:=(h.k x hx).1.2 ad ha ht;rw [g.frozen ((h.k x hx).1.1.lt ha ht) (fun hm => by have:=hS _ hm;omega)];exact h.f x hx ad ha ht o,h.l1,h.l2⟩
theorem OwnT.at {B:Nat} {w:World} {T:TM} (h:OwnT B w T):TreeAt (fun b => B≤b) w T:=by
 obtain ⟨a1,c1,e1,r1,n1,b1⟩:=recs_of_owns NdM.cells_len h.n;obtain ⟨a2,c2,e2,r2,n2,b2⟩:=recs_of_owns Gh.cells_len h.g;injection e1 with p1 _ p3
 injection e2 with s1 _ s3
 subst p1 p3 s1 s3;exact ⟨⟨⟨r1,fun x hx _ => b1 x hx⟩,h.k⟩,n1,⟨r2,fun x hx _ => b2 x hx⟩,n2,h.l1,h.l2⟩
def NewT (v:TreeV) (w:World) (e:Ending) (w':World):Prop:=∃ T:TM,e = .returned (.agg T.row)∧T.v = v∧OwnT w.heap.size w' T∧Gr w w'
set_option maxRecDepth 100000 in
set_option maxHeartbeats 3200000 in
theorem tcopied_any (T:TM) (w:World) (hT:TreeAt Any w T) :
 Calls Tryz.prog 43 #[.agg T.row] w (NewT T.v w):=by
 obtain ⟨i36,hi,hz0,hz1,hz2⟩:=info_parts Tryz.infoNd;obtain ⟨W,hW⟩:∃ W,W = (w.alloc (.cells T.row 27)).alloc (.cells #[.slice none 0 0,.slice none 0 0,.int .i64 0,.int .i64 0] 27):=⟨_,rfl⟩
 have gW:Gr w W:=by rw [hW];exact ((Gr.refl w).alloc _).alloc _
 have hO:Blk W w.heap.size T.row 27:=by rw [hW];exact (Blk.new w _ _).alloc _
 have hR:Blk W (w.heap.size + 1) #[.slice none 0 0,.slice none 0 0,.int .i64 0,.int .i64 0] 27:=by
  rw [hW];have:=Blk.new (w.alloc (.cells T.row 27)) #[.slice none 0 0,.slice none 0 0,.int .i64 0,.int .i64 0] 27;rw [World.size_alloc] at this;exact this
 have hWz:W.heap.size = w.heap.size + 2:=by rw [hW];simp
 have hTW:=hT.gr gW;obtain ⟨N,an,cn,G,ag,cg,last,now⟩:=T;obtain ⟨L,hLN⟩:∃ L,L = N:=⟨_,rfl⟩
 obtain ⟨h,hnn,hG,hgn,hl1,hl2⟩:=hTW;dsimp only at h hG hnn hgn hl1 hl2;rw [← hLN] at h hl1;have o0:=hO.cell (i:=0) (v:=.slice an L.length cn) (by rw [hLN];rfl);have hm:L.length * 72≤140737488351232:=by omega
 dsimp only [TM.row] at hO hR hW;rw [← hLN] at hO hW;replace hW:=Lib.hid hW;replace hO:=Lib.hid hO;replace hR:=Lib.hid hR;replace hT:=Lib.hid hT;replace hWz:=Lib.hid hWz;replace hG:=Lib.hid hG;dsimp only [TM.row];rw [← hLN];replace hLN:=Lib.hid hLN;go_enter Tryz.func43,Tryz.ntmps43;go_upto_region 2 with fail
 rw [← hW.out];go_wp2_with fail;clear o0;go_loopw [9,3] (fun iv v wr => ∃ (k:Nat) (L':List NdM),k≤L.length∧iv = .int .i64 k∧L'.length = k∧L'.map (·.e) = (L.take k).map (·.e)∧wr.ownsRow W.heap.size 39 7 v L'.length (L'.flatMap NdM.cells)∧(∀ x ∈ L',x.ok (fun b => W.heap.size≤b) wr∧∀ ad,x.a = some ad→x.e.tasks ≠ []→v.ownBlock ≠ some ad.block)∧(∀ x ∈ L',∀ ad,x.a = some ad→x.e.tasks ≠ []→∀ o,wr.frozen? ⟨ad.block,o,none⟩ = false)∧Gr W wr) (fun iv _ _ => L.length - (intOf iv).toNat);case atStart => exact ⟨0,[],Nat.zero_le _,rfl,rfl,rfl,World.ownsRow_nil _ _ _ _,(fun _ h => by cases h),(fun _ h => by cases h),Gr.refl _⟩
 case round =>
  obtain ⟨k,L',hk,rfl,hlen,hmap,hown,hoks,hfr,hg⟩:=hrel;replace hlen:=Lib.hid hlen;replace hmap:=Lib.hid hmap;replace hoks:=Lib.hid hoks;replace hfr:=Lib.hid hfr;by_cases hlt:k < L.length
  ·obtain ⟨x,hx⟩:=get_some L k hlt;obtain ⟨b,off,rfl,hb,_,c0,c1,c2,c3,c4,c5,c6⟩:=(h.gr hg).get hx;have hxo:=(h.gr hg).2 x (get_mem hx);have hxm:=nd_cap hxo;replace hx:=Lib.hid hx;go_wp2_with fail;refine (cloneF_any x.a x.c x.e.tasks _ (hxo.gr ((Gr.refl wr).alloc x.obj)).1.1 hxo.2.1 hxm).mono ?_;rintro e w1 ⟨a1,d1,rfl,r1,m1,q1,q2,g1,fr1,-⟩;replace fr1:=Lib.hid fr1;obtain ⟨k1,j1,s1⟩:=g1.cells;simp only [World.size_alloc] at k1 j1 s1;have z1:wr.heap.size < w1.heap.size:=by omega
   have kk:=fun o => k1 wr.heap.size o (by omega)
   have jj:=fun o => j1 wr.heap.size o (by omega)
   clear k1 j1
   -- the world behind the store,and behind the literal
   have gW:Gr wr (w1.setCell ⟨wr.heap.size,6,none⟩ (.slice a1 x.e.tasks.length d1)):=(((Gr.refl wr).alloc x.obj).trans g1).setCell (Nat.le_refl _) _;have hown2:=owns_gr hown gW;have hl63:L'.length + 1≤maxLen:=by rw [hlen.out];unfold maxLen;omega
   have hby:(L'.length + 1) * 72≤140737488355328:=by rw [hlen.out];omega
   have n3:W.heap.size≤(w1.setCell ⟨wr.heap.size,6,none⟩ (.slice a1 x.e.tasks.length d1)).heap.size:=by have:=hg.size;simp;omega
   have hrec:=recs_alloc NdM.cells_len (w1.setCell ⟨wr.heap.size,6,none⟩ (.slice a1 x.e.tasks.length d1)) [⟨x.e,a1,d1⟩] 39 (List.toArray (x.e.cells a1 d1)) (by simp);rw [World.size_setCell] at hrec;have hbl:=owns_lt hown;replace hbl:=Lib.hid hbl;go_wp2_with (at_builtin;refine wpList_append_one (k:=7) (enc:=NdM.cells) rfl _ _ 24 rfl W.heap.size 39 i36 _ 72 Tryz.underlying24 hi hz0 hz1 hz2 rfl (by decide) NdM.cells_len NdM.cells_one _ L' rfl (hown2.alloc _) w1.heap.size 1 ⟨x.e,a1,d1⟩ rfl hrec hl63 hby (le_alloc n3 _) ?_;intro v1 w2 hown1 hgr1 hat);have gW2:Gr wr ((w1.setCell ⟨wr.heap.size,6,none⟩ (.slice a1 x.e.tasks.length d1)).alloc (NdM.obj ⟨x.e,a1,d1⟩)):=gW.alloc _;have hg2:Gr W w2:=(hg.trans gW2).grown hgr1 (fun g hg' => (hbl.out g hg').2);have hx1:RecsAt 4 Tsk.cells ((w1.setCell ⟨wr.heap.size,6,none⟩ (.slice a1 x.e.tasks.length d1)).alloc (NdM.obj ⟨x.e,a1,d1⟩)) a1 x.e.tasks:=by
    have hr1:=r1.grx (T:=[wr.heap.size]) (((GrX.refl [wr.heap.size] w1).set (.inl (List.mem_singleton.2 rfl)) (.slice a1 x.e.tasks.length d1):GrX [wr.heap.size] w1 (w1.setCell ⟨wr.heap.size,6,none⟩ (.slice a1 x.e.tasks.length d1))).alloc (NdM.obj ⟨x.e,a1,d1⟩)) (fun y hy => by rw [List.mem_singleton.1 hy];simp);exact hr1.1
   have hnew:∀ ad,a1 = some ad→x.e.tasks ≠ []→wr.heap.size < ad.block:=fun ad h1 h2 => by have:=r1.2 ad h1 h2;simp at this;omega
   have hoks2:∀ y ∈ L' ++ [⟨x.e,a1,d1⟩],y.ok (fun b => W.heap.size≤b) w2∧∀ ad,y.a = some ad→y.e.tasks ≠ []→v1.ownBlock ≠ some ad.block:=by
    intro y hy;rcases List.mem_append.1 hy with hy | hy
    ·obtain ⟨o1,o2⟩:=hoks.out y hy;refine ⟨(o1.gr gW2).grown hgr1 o2,fun ad ha ht => ?_⟩;rcases hat with hat | hat
     ·rw [hat];exact o2 ad ha ht
     ·rw [hat];intro e;have e2:((w1.setCell ⟨wr.heap.size,6,none⟩ (.slice a1 x.e.tasks.length d1)).alloc (NdM.obj ⟨x.e,a1,d1⟩)).heap.size = ad.block:=Option.some.inj e;have e3:=o1.1.1.lt ha ht;have e4:=gW2.size;omega
    ·rw [List.mem_singleton.1 hy];refine ⟨⟨⟨hx1.grown hgr1 (fun ad ha ht e => ?_),fun ad ha ht => ?_⟩,m1,q1,q2,hxm⟩,fun ad ha ht e => ?_⟩
     ·have:=(hbl.out _ e).1;have:=hnew ad ha ht;omega
     ·have:=hnew ad ha ht;have:=hg.size;omega
     ·rcases hat with hat | hat
      ·rw [hat] at e;have:=(hbl.out _ e).1;have:=hnew ad ha ht;omega
      ·rw [hat] at e;have e2:((w1.setCell ⟨wr.heap.size,6,none⟩ (.slice a1 x.e.tasks.length d1)).alloc (NdM.obj ⟨x.e,a1,d1⟩)).heap.size = ad.block:=Option.some.inj e;have e3:=hx1.lt ha ht;omega
   have hfr2:∀ y ∈ L' ++ [⟨x.e,a1,d1⟩],∀ ad,y.a = some ad→y.e.tasks ≠ []→∀ o,w2.frozen? ⟨ad.block,o,none⟩ = false:=by
    intro y hy ad ha ht o;rcases List.mem_append.1 hy with hy | hy
    ·obtain ⟨o1,o2⟩:=hoks.out y hy;have e3:=o1.1.1.lt ha ht;rw [hgr1.frozen_far ⟨ad.block,o,none⟩ (Nat.lt_of_lt_of_le e3 gW2.size) (fun e => o2 ad ha ht e.symm),gW2.cells.2.1 _ _ e3];exact hfr.out y hy ad ha ht o
    ·rw [List.mem_singleton.1 hy] at ha ht;have e3:=hx1.lt ha ht;have e4:=r1.1.lt ha ht;rw [hgr1.frozen_far ⟨ad.block,o,none⟩ e3 (fun e => by have h5:ad.block < wr.heap.size:=(hbl.out _ e.symm).1;have:=hnew ad ha ht;omega)];rw [((Gr.refl (w1.setCell ⟨wr.heap.size,6,none⟩ (.slice a1 x.e.tasks.length d1))).alloc (NdM.obj ⟨x.e,a1,d1⟩)).cells.2.1 _ _ (by simpa using e4)];rw [World.frozen?_setCell];exact fr1.out ad ha ht o
   replace hfr2:=Lib.hid hfr2;clear hat hgr1 r1 hx1 hnew hbl hoks;have hmap2:(L' ++ [(⟨x.e,a1,d1⟩:NdM)]).map (·.e) = (L.take (k + 1)).map (·.e):=by rw [take_snoc hx.out,List.map_append,List.map_append,hmap.out];rfl
   replace hmap2:=Lib.hid hmap2;replace hoks2:=Lib.hid hoks2;go_wp2_with fail;go_roundw;case rel => exact ⟨k + 1,L' ++ [⟨x.e,a1,d1⟩],by omega,by go_num,by rw [List.length_append,hlen.out];rfl,hmap2.out,hown1,hoks2.out,hfr2.out,hg2⟩
   case measure => simp [intOf];omega
  ·have hall:L.take k = L:=List.take_of_length_le (by omega);obtain ⟨a',c',hv,hr,hn,hbb⟩:=recs_of_owns NdM.cells_len hown;have hL:L'.length = L.length:=by have:=hlen.out;omega
   subst hv;have hOr:=hO.out.gr hg;have hRr:=hR.out.gr hg;have o1:=hOr.cell (i:=1) (v:=.slice ag G.length cg) rfl;replace hOr:=Lib.hid hOr;replace hRr:=Lib.hid hRr;go_wp2_with fail;refine (cloneG_any ag cg G wr (hG.out.grx (hg.x []) (fun _ h => by cases h)).1 hgn (by omega)).mono ?_;rintro e w2 ⟨a2,c2,rfl,r2,m2,q1,q2,g2,fr2,own2⟩;have hO2:=hOr.out.gr g2;have hR2:=hRr.out.gr g2;have p0:=hO2.cell (i:=0) (v:=.slice an L.length cn) rfl;have p1:=hO2.cell (i:=1) (v:=.slice ag G.length cg) rfl;have p2:=hO2.cell (i:=2) (v:=.int .i64 last) rfl;have p3:=hO2.cell (i:=3) (v:=.int .i64 now) rfl;have q0:=hR2.cell (i:=0) (v:=.slice none 0 0) rfl;have q1':=hR2.cell (i:=1) (v:=.slice none 0 0) rfl;have q2':=hR2.cell (i:=2) (v:=.int .i64 0) rfl;have q3:=hR2.cell (i:=3) (v:=.int .i64 0) rfl;have fo:=fun i => hO2.free i
   have fr:=fun i => hR2.free i
   have hne:w.heap.size ≠ w.heap.size + 1:=by omega
   replace hO2:=Lib.hid hO2;replace hR2:=Lib.hid hR2;replace r2:=Lib.hid r2;replace m2:=Lib.hid m2;replace fr2:=Lib.hid fr2;replace own2:=Lib.hid own2;replace hown:=Lib.hid hown;replace hr:=Lib.hid hr;clear o1;go_wp2_with fail;have hOT:OwnT W.heap.size w2 ⟨L',a',c',G,a2,c2,last,now⟩:=by
    have hgz:=hg.size;refine ⟨owns_gr (by rw [hL];rw [hL] at hown;exact hown.out) g2,owns_base own2.out hgz,fun x hx => (hoks.out x hx).1.gr g2,fun x hx ad ha ht => (hoks.out x hx).2 ad ha ht,fun x hx ad ha ht e => ?_,fun x hx ad ha ht o => ?_,by show L'.length≤1000000;omega,hl2⟩
    ·have h1:=(owns_lt own2.out _ e).2;have h2:=(hoks.out x hx).1.1.1.lt ha ht;omega
    ·rw [g2.cells.2.1 _ _ ((hoks.out x hx).1.1.1.lt ha ht)];exact hfr.out x hx ad ha ht o
   obtain ⟨w9,hw9⟩:∃ w9,w9 = ((((((w2.setCell ⟨w.heap.size,0,none⟩ (.slice a' L.length c')).setCell ⟨w.heap.size,1,none⟩ (.slice a2 G.length c2)).setCell ⟨w.heap.size + 1,0,none⟩ (.slice a' L.length c')).setCell ⟨w.heap.size + 1,1,none⟩ (.slice a2 G.length c2)).setCell ⟨w.heap.size + 1,2,none⟩ (.int .i64 last)).setCell ⟨w.heap.size + 1,3,none⟩ (.int .i64 now)):=⟨_,rfl⟩
   rw [← hw9];have gx:GrX [w.heap.size,w.heap.size + 1] w2 w9:=by
    rw [hw9];exact ((((((GrX.refl _ _).set (.inl (by simp)) _).set (.inl (by simp)) _).set (.inl (by simp)) _).set (.inl (by simp)) _).set (.inl (by simp)) _).set (.inl (by simp)) _
   have hR9:Blk w9 (w.heap.size + 1) #[.slice a' L.length c',.slice a2 G.length c2,.int .i64 last,.int .i64 now] 27:=by
    rw [hw9];exact (((((hR2.out.other hne.symm _).other hne.symm _).set 0 _).set 1 _).set 2 _).set 3 _
   have d0:=hR9.cell (i:=0) (v:=.slice a' L.length c') rfl;have d1:=hR9.cell (i:=1) (v:=.slice a2 G.length c2) rfl;have d2:=hR9.cell (i:=2) (v:=.int .i64 last) rfl;have d3:=hR9.cell (i:=3) (v:=.int .i64 now) rfl;have hwz:=hWz.out;refine bodyPost_ret (v:=.agg #[.slice a' L.length c',.slice a2 G.length c2,.int .i64 last,.int .i64 now]) (by simp [results,Tryz.results43,go_sem,d0,d1,d2,d3]) rfl ?_;refine ⟨⟨L',a',c',G,a2,c2,last,now⟩,by rw [show TM.row ⟨L',a',c',G,a2,c2,last,now⟩ = #[.slice a' L'.length c',.slice a2 G.length c2,.int .i64 last,.int .i64 now] from rfl,hL],?_,(hOT.grx gx (fun y hy => by simp at hy;omega)).base (by omega),gx.all (gW.trans (hg.trans g2)) (fun y hy => by simp at hy;omega)⟩;show TreeV.mk _ _ _ _ = TreeV.mk _ _ _ _;rw [hmap.out,hall]
end Go.Proofs.YtdfelohjdkcpkaaGreatDoor
