/- Numbers as digits of base 65536, lowest first, in plain numbers. Nothing of the program is named here. -/
import Derived.Test.YtdfelohjdkcpkaaGreatDoorKK2
import Derived.Laws.BitsLemmas
import Derived.Deep.AppendLies
import Derived.Outline
set_option maxRecDepth 100000
set_option maxHeartbeats 3200000
namespace Go.Proofs.YtdfelohjdkcpkaaGreatDoor
open Go.RowKit
def AH:List Int→Int
 | [] => 0
 | d :: r => d + 65536 * AH r
def Dm (l:List Int):Prop:=∀ d ∈ l,0≤d∧d < 65536
def FL (i:Nat):Int:=((65536 ^ i:Nat):Int)
theorem OD:FL 0 = 1:=rfl
theorem FJ (i:Nat):FL (i + 1) = FL i * 65536:=by unfold FL;rw [Nat.pow_succ];simp
theorem O8 (i j:Nat):FL (i + j) = FL i * FL j:=by unfold FL;rw [Nat.pow_add];simp
theorem Cd (a b:List Int):AH (a ++ b) = AH a + FL a.length * AH b:=by
 induction a with
 | nil => simp [AH,OD]
 | cons d r ih =>
  rw [List.cons_append,AH,AH,ih,List.length_cons,FJ,Int.mul_add,Int.mul_comm (FL r.length) 65536,Int.mul_assoc,Int.add_assoc]
theorem Fo (d:Int):AH [d] = d:=by simp [AH]
theorem KR (n:Nat):AH (List.replicate n 0) = 0:=by
 induction n with
 | zero => rfl
 | succ n ih => rw [List.replicate_succ,AH,ih];rfl
theorem Dm.append {a b:List Int} (ha:Dm a) (hb:Dm b):Dm (a ++ b):=fun d h => (List.mem_append.1 h).elim (ha d) (hb d)
theorem Dm.one {d:Int} (h:0≤d∧d < 65536):Dm [d]:=fun x hx => by rw [List.mem_singleton.1 hx];exact h
theorem Dm.take {a:List Int} (h:Dm a) (n:Nat):Dm (a.take n):=fun d hd => h d (List.mem_of_mem_take hd)
theorem Dm.zeros (n:Nat):Dm (List.replicate n 0):=fun d hd => by rw [(List.mem_replicate.1 hd).2];decide
theorem Dm.get {a:List Int} (h:Dm a) {i:Nat} {d:Int} (hd:a[i]? = some d):0≤d∧d < 65536:=h d (List.mem_of_getElem? hd)
theorem Fp {a:List Int} (h:Dm a):0≤AH a∧AH a < FL a.length:=by
 induction a with
 | nil => exact ⟨by decide,by decide⟩
 | cons d r ih =>
  have h1:=h d (List.mem_cons_self ..);have h2:=ih (fun x hx => h x (List.mem_cons_of_mem _ hx));rw [AH,List.length_cons,FJ];omega
theorem DF {a:List Int} {i:Nat} {d:Int} (h:a[i]? = some d):AH (a.take (i + 1)) = AH (a.take i) + FL i * d:=by
 have hi:i < a.length:=(List.getElem?_eq_some_iff.1 h).1;rw [List.take_add_one,h,Option.toList_some,Cd,Fo,List.length_take,Nat.min_eq_left (by omega)]
theorem FQ {a:List Int} {i:Nat} (h:a.length≤i):AH (a.take (i + 1)) = AH (a.take i):=by
 rw [List.take_of_length_le h,List.take_of_length_le (by omega)]
theorem Ld {v p c x y A B:Int} (h:v + p * c = A + B) :
 (v + p * ((c + x + y) % 65536)) + (p * 65536) * ((c + x + y) / 65536) = (A + p * x) + (B + p * y):=by
 have e:=Int.emod_add_mul_ediv (c + x + y) 65536;have e2:p * (c + x + y) = p * c + p * x + p * y:=by rw [Int.mul_add,Int.mul_add]
 have e3:p * ((c + x + y) % 65536) + (p * 65536) * ((c + x + y) / 65536) = p * (c + x + y):=by
  rw [Int.mul_assoc,← Int.mul_add,e]
 omega
theorem MO {v p c x y A:Int} (h:v + p * c = x * A) :
 (v + p * ((x * y + c) % 65536)) + (p * 65536) * ((x * y + c) / 65536) = x * (A + p * y):=by
 have e:=Int.emod_add_mul_ediv (x * y + c) 65536;have e3:p * ((x * y + c) % 65536) + (p * 65536) * ((x * y + c) / 65536) = p * (x * y + c):=by
  rw [Int.mul_assoc,← Int.mul_add,e]
 have e4:p * (x * y + c) = x * (p * y) + p * c:=by rw [Int.mul_add,← Int.mul_assoc,← Int.mul_assoc,Int.mul_comm p x]
 rw [Int.mul_add];omega
def B7 (n:Int):List Int:=[n % 65536,n / 65536 % 65536,n / 4294967296 % 65536,n / 281474976710656]
theorem ET (n:Int):AH (B7 n) = n:=by simp only [B7,AH];omega
theorem EU {n:Int} (h0:0≤n) (h1:n < 18446744073709551616):Dm (B7 n):=by
 intro d hd;simp only [B7,List.mem_cons,List.not_mem_nil,or_false] at hd;omega
abbrev Ez (d:Int):List Value:=[.int .u32 d]
theorem Bt (d:Int):(Ez d).length = 1:=rfl
theorem Dj (d:Int):∀ u ∈ Ez d,u.oneCell' = true:=by intro u hu;simp at hu;subst hu;rfl
def BV (w:World) (a:Option Addr) (l:List Int):Prop:=Al 1 Ez w a l
theorem BV.gr {w w':World} {a:Option Addr} {l:List Int} (h:BV w a l) (g:Gr w w'):BV w' a l:=by
 intro i s hi;obtain ⟨b,off,ha,hb,hc⟩:=h i s hi;exact ⟨b,off,ha,Nat.lt_of_lt_of_le hb g.size,fun j u hu => by rw [g.cells.1 _ _ hb];exact hc j u hu⟩
theorem BV.get {w:World} {a:Option Addr} {l:List Int} (h:BV w a l) {i:Nat} {d:Int} (hd:l[i]? = some d):∃ b off,a = some ⟨b,off,none⟩∧b < w.heap.size∧w.cell? ⟨b,off + i,none⟩ = some (.int .u32 d):=by
 obtain ⟨b,off,ha,hb,hc⟩:=h i d hd;exact ⟨b,off,ha,hb,by simpa using hc 0 _ rfl⟩
def Cap (n c:Nat):Prop:=n≤c∧c≤maxLen
theorem LT {w:World} {base:Nat} {e:TypeId} {size:Nat} {v:Value} {n:Nat} {xs:List Value} {a:Option Addr} {m c:Nat} (h:w.ownsRow base e size v n xs) (hv:v = .slice a m c):Cap n c:=by
 obtain ⟨_,⟨h1,h2⟩ | ⟨g,cap,cur,h1,_,_,h2,h3,_⟩⟩:=h
 ·rw [hv] at h1;cases h1;exact ⟨by omega,Nat.zero_le _⟩
 ·rw [hv] at h1;cases h1;exact ⟨h2,h3⟩
def Jw (x:Int) (n m:Nat) (w:World) (e:Ending) (w':World):Prop :=
 ∃ (ds:List Int) (a:Option Addr) (c:Nat),e = .returned (.slice a ds.length c)∧AH ds = x∧Dm ds∧n≤ds.length∧ds.length≤m∧BV w' a ds∧(a = none→c = 0)∧Cap ds.length c∧Gr w w'
theorem Tryz.infoU32:(Tryz.prog.info? 211).map (fun i => (i.zero,i.size,i.bytes)) = some (some (.int .u32 0),1,4):=by kernel_rfl
theorem Dc (z:Int) (h0:0≤z) (h1:z < 18446744073709551616):bits .and .u64 z 65535 = z % 65536:=by go_bits2
theorem CG (z:Int) (h0:0≤z) (h1:z < 4294967296):bits .and .u32 z 65535 = z % 65536:=by
 have h16:(BitVec.ofInt 32 65535).toNat = 2 ^ 16 - 1:=by decide
 have key:(BitVec.ofInt 32 z &&& BitVec.ofInt 32 65535).toNat = (z % ((2 ^ 32:Nat):Int)).toNat % 2 ^ 16:=by
  rw [BitVec.toNat_and,BitVec.toNat_ofInt,h16,Nat.and_two_pow_sub_one_eq_mod]
 show IntKind.u32.wrap ((BitVec.ofInt 32 z &&& BitVec.ofInt 32 65535).toNat:Nat) = z % 65536;rw [key,IntKind.wrap_u32];omega
theorem O4 (n:Int) (w:World) (h0:0≤n) (h1:n < 18446744073709551616) :
 Calls Tryz.prog 219 #[.int .u64 n] w fun e w' => e = .returned (.slice (some ⟨w.heap.size,0,none⟩) (B7 n).length 4)∧BV w' (some ⟨w.heap.size,0,none⟩) (B7 n)∧Gr w w':=by
 have e0:=Dc n h0 h1;have e1:=Dc (n / 65536) (by omega) (by omega);have e2:=Dc (n / 4294967296) (by omega) (by omega);go_enter Tryz.func219,Tryz.ntmps219;go_wp2_with fail;go_ret;refine ⟨rfl,?_,(Gr.refl _).alloc _⟩;exact An Bt w (B7 n) _ _ rfl
def GQ (da db ds:List Int) (i:Nat) (c:Int):Prop :=
 ds.length = i∧Dm ds∧0≤c∧c≤1∧AH ds + FL i * c = AH (da.take i) + AH (db.take i)∧i≤max da.length db.length + 1∧(i = max da.length db.length + 1→c = 0)
theorem C6 {da db ds:List Int} {i:Nat} {c x y:Int} (h:GQ da db ds i c) (hx:da[i]? = some x ∨ (da.length≤i∧x = 0)) (hy:db[i]? = some y ∨ (db.length≤i∧y = 0)) (bx:0≤x∧x < 65536) (by':0≤y∧y < 65536) (hlt:i < max da.length db.length ∨ 0 < c) :
 GQ da db (ds ++ [(c + x + y) % 65536]) (i + 1) ((c + x + y) / 65536):=by
 obtain ⟨h1,h2,h3,h4,h5,h6,h7⟩:=h;have ex:AH (da.take (i + 1)) = AH (da.take i) + FL i * x:=by
  rcases hx with hx | ⟨hx,rfl⟩
  ·exact DF hx
  ·rw [FQ hx];simp
 have ey:AH (db.take (i + 1)) = AH (db.take i) + FL i * y:=by
  rcases hy with hy | ⟨hy,rfl⟩
  ·exact DF hy
  ·rw [FQ hy];simp
 refine ⟨by simp [h1],h2.append (Dm.one ⟨by omega,by omega⟩),by omega,by omega,?_,by omega,?_⟩
 ·rw [Cd,Fo,h1,ex,ey,FJ];exact Ld h5
 ·intro hi;have hx0:x = 0:=by
   rcases hx with hx | ⟨_,hx⟩
   ·have:=(List.getElem?_eq_some_iff.1 hx).1;omega
   ·exact hx
  have hy0:y = 0:=by
   rcases hy with hy | ⟨_,hy⟩
   ·have:=(List.getElem?_eq_some_iff.1 hy).1;omega
   ·exact hy
  omega
theorem F7 (a b:Option Addr) (da db:List Int) (ca cb:Nat) (w:World) (ha:BV w a da) (hb:BV w b db) (ga:Dm da) (gb:Dm db) (la:da.length≤1000) (lb:db.length≤1000) :
 Calls Tryz.prog 183 #[.slice a da.length ca,.slice b db.length cb] w (Jw (AH da + AH db) (max da.length db.length) (max da.length db.length + 1) w):=by
 obtain ⟨i109,hi,hz0,hz1,hz2⟩:=info_parts Tryz.infoU32;go_enter Tryz.func183,Tryz.ntmps183;go_wp2_with fail;go_loopw [5,6,7] (fun v cv iv wr => ∃ (i:Nat) (c:Int) (ds:List Int),GQ da db ds i c∧iv = .int .i64 i∧cv = .int .u32 c∧wr.ownsRow w.heap.size 211 1 v ds.length (ds.flatMap Ez)∧Gr w wr) (fun _ _ iv _ => max da.length db.length + 1 - (intOf iv).toNat);case atStart => exact ⟨0,0,[],⟨rfl,(fun _ h => by cases h),by decide,by decide,by simp [AH],by omega,by omega⟩,rfl,rfl,Bw _ _ _ _ rfl _ (Nat.le_refl _),(Gr.refl _).alloc _⟩
 case round =>
  obtain ⟨i,c,ds,hinv,rfl,rfl,hown,hg⟩:=hrel;obtain ⟨hi1,hi2,hi3,hi4,hi5,hi6,hi7⟩:=(show GQ da db ds i c from hinv)
  have n1:ds.length + ([(0:Int)]:List Int).length≤maxLen:=by unfold maxLen;simp;omega
  have n2:(ds.length + ([(0:Int)]:List Int).length) * 4≤140737488355328:=by simp;omega
  have n3:w.heap.size≤wr.heap.size:=hg.size;replace hi5:=zH hi5;replace hi1:=zH hi1;by_cases hxa:i < da.length
  ·by_cases hxb:i < db.length
   ·obtain ⟨x,hx⟩:=Ac da i hxa;obtain ⟨ba,oa,rfl,hba,cx⟩:=(ha.gr hg).get hx;have bx:=ga.get hx;obtain ⟨bx1,bx2⟩:=bx;obtain ⟨y,hy⟩:=Ac db i hxb;obtain ⟨bb,ob,rfl,hbb,cy⟩:=(hb.gr hg).get hy;have by1:=gb.get hy;obtain ⟨by2,by3⟩:=by1;have step:=C6 hinv (.inl hx) (.inl hy) ⟨bx1,bx2⟩ ⟨by2,by3⟩ (.inl (by omega));have em:=CG (c + x + y) (by omega) (by omega);replace step:=zH step;clear hinv;go_wp2_with (at_builtin;refine Ai (k:=1) (enc:=Ez) rfl _ _ 281 rfl w.heap.size 211 i109 _ 4 Tryz.underlying281 hi hz0 hz1 hz2 rfl (by decide) Bt Dj _ ds rfl (hown.alloc _) (some ⟨wr.heap.size,0,none⟩) 1 [(c + x + y) % 65536] rfl (An Bt wr [(c + x + y) % 65536] _ _ rfl) (fun h => by cases h) n1 n2 (BG n3 _) ?_;intro v1 w1 hown1 hgr1);have hg1:Gr w w1:=(hg.alloc _).grown hgr1 (A7 hown);go_wp2_with fail;go_roundw;case rel => exact ⟨i + 1,_,_,step.out,by go_num,rfl,hown1,hg1⟩
    case measure => simp [intOf];omega
   ·obtain ⟨x,hx⟩:=Ac da i hxa;obtain ⟨ba,oa,rfl,hba,cx⟩:=(ha.gr hg).get hx;have bx:=ga.get hx;obtain ⟨bx1,bx2⟩:=bx;have step:=C6 hinv (.inl hx) (.inr ⟨by omega,rfl⟩) ⟨bx1,bx2⟩ (by decide) (.inl (by omega));simp only [Int.add_zero] at step;have em:=CG (c + x) (by omega) (by omega);replace step:=zH step;clear hinv;go_wp2_with (at_builtin;refine Ai (k:=1) (enc:=Ez) rfl _ _ 281 rfl w.heap.size 211 i109 _ 4 Tryz.underlying281 hi hz0 hz1 hz2 rfl (by decide) Bt Dj _ ds rfl (hown.alloc _) (some ⟨wr.heap.size,0,none⟩) 1 [(c + x) % 65536] rfl (An Bt wr [(c + x) % 65536] _ _ rfl) (fun h => by cases h) n1 n2 (BG n3 _) ?_;intro v1 w1 hown1 hgr1);have hg1:Gr w w1:=(hg.alloc _).grown hgr1 (A7 hown);go_wp2_with fail;go_roundw;case rel => exact ⟨i + 1,_,_,step.out,by go_num,rfl,hown1,hg1⟩
    case measure => simp [intOf];omega
  ·by_cases hxb:i < db.length
   ·obtain ⟨y,hy⟩:=Ac db i hxb;obtain ⟨bb,ob,rfl,hbb,cy⟩:=(hb.gr hg).get hy;have by1:=gb.get hy;obtain ⟨by2,by3⟩:=by1;have step:=C6 hinv (.inr ⟨by omega,rfl⟩) (.inl hy) (by decide) ⟨by2,by3⟩ (.inl (by omega));simp only [Int.add_zero] at step;have em:=CG (c + y) (by omega) (by omega);replace step:=zH step;clear hinv;go_wp2_with (at_builtin;refine Ai (k:=1) (enc:=Ez) rfl _ _ 281 rfl w.heap.size 211 i109 _ 4 Tryz.underlying281 hi hz0 hz1 hz2 rfl (by decide) Bt Dj _ ds rfl (hown.alloc _) (some ⟨wr.heap.size,0,none⟩) 1 [(c + y) % 65536] rfl (An Bt wr [(c + y) % 65536] _ _ rfl) (fun h => by cases h) n1 n2 (BG n3 _) ?_;intro v1 w1 hown1 hgr1);have hg1:Gr w w1:=(hg.alloc _).grown hgr1 (A7 hown);go_wp2_with fail;go_roundw;case rel => exact ⟨i + 1,_,_,step.out,by go_num,rfl,hown1,hg1⟩
    case measure => simp [intOf];omega
   ·by_cases hc0:0 < c
    ·have step:=C6 hinv (.inr ⟨by omega,rfl⟩) (.inr ⟨by omega,rfl⟩) (by decide) (by decide) (.inr (by omega));simp only [Int.add_zero] at step;have em:=CG (c) (by omega) (by omega);replace step:=zH step;clear hinv;go_wp2_with (at_builtin;refine Ai (k:=1) (enc:=Ez) rfl _ _ 281 rfl w.heap.size 211 i109 _ 4 Tryz.underlying281 hi hz0 hz1 hz2 rfl (by decide) Bt Dj _ ds rfl (hown.alloc _) (some ⟨wr.heap.size,0,none⟩) 1 [(c) % 65536] rfl (An Bt wr [(c) % 65536] _ _ rfl) (fun h => by cases h) n1 n2 (BG n3 _) ?_;intro v1 w1 hown1 hgr1);have hg1:Gr w w1:=(hg.alloc _).grown hgr1 (A7 hown);go_wp2_with fail;go_roundw;case rel => exact ⟨i + 1,_,_,step.out,by go_num,rfl,hown1,hg1⟩
     case measure => simp [intOf];omega
    ·obtain rfl:c = 0:=by omega
     have hfin:AH ds = AH da + AH db:=by
      have:=hi5.out;rw [List.take_of_length_le (by omega),List.take_of_length_le (by omega)] at this;omega
     replace hfin:=zH hfin;obtain ⟨a',c',hv,hr,hn,_⟩:=Af Bt hown;have hcap:=LT hown hv;go_wp2_with fail;go_ret;exact ⟨ds,a',c',rfl,hfin.out,hi2,by have:=hi1.out;omega,by have:=hi1.out;omega,hr,hn,hcap,hg⟩
theorem MP (n:Nat):(madeCells (Value.int .u32 0).cells (n * 1)).toList = (List.replicate n (0:Int)).flatMap Ez:=by
 have e:(List.replicate n (0:Int)).flatMap Ez = List.replicate n (.int .u32 0):=by
  induction n with
  | zero => rfl
  | succ n ih => rw [List.replicate_succ,List.flatMap_cons,ih,List.replicate_succ];rfl
 rw [e];simp [madeCells,Value.cells,Nat.mod_one,List.map_const']
def Ga (da rs:List Int) (i j:Nat) (x c:Int):Prop :=
 rs.length = i + j∧Dm rs∧0≤c∧c < 65536∧AH rs + FL (i + j) * c = x * (FL i * AH (da.take j))
theorem Ja (da:List Int) (i:Nat) (x:Int):Ga da (List.replicate i 0) i 0 x 0 :=
 ⟨by simp,Dm.zeros i,by decide,by decide,by rw [KR];simp [AH]⟩
theorem JR {da rs:List Int} {i j:Nat} {x c y:Int} (h:Ga da rs i j x c) (hy:da[j]? = some y) (bx:0≤x∧x < 65536) (by':0≤y∧y < 65536) :
 Ga da (rs ++ [(x * y + c) % 65536]) i (j + 1) x ((x * y + c) / 65536)∧0≤x * y∧x * y≤4294836225:=by
 obtain ⟨h1,h2,h3,h4,h5⟩:=h;have m:=Cw bx.1 (show x≤65535 by omega) by'.1 (show y≤65535 by omega)
 refine ⟨⟨by simp [h1];omega,h2.append (Dm.one ⟨by omega,by omega⟩),by omega,by omega,?_⟩,m.1,by omega⟩;rw [Cd,Fo,h1,DF hy,show i + (j + 1) = i + j + 1 from rfl,FJ,Int.mul_add (FL i),← Int.mul_assoc (FL i),← O8];exact MO h5
theorem K2 {da rs:List Int} {i:Nat} {x c:Int} (h:Ga da rs i da.length x c):AH (rs ++ [c]) = x * (FL i * AH da)∧Dm (rs ++ [c])∧(rs ++ [c]).length = i + da.length + 1:=by
 obtain ⟨h1,h2,h3,h4,h5⟩:=h;rw [List.take_length] at h5;refine ⟨?_,h2.append (Dm.one ⟨h3,h4⟩),by simp [h1]⟩;rw [Cd,Fo,h1];exact h5
def FI (da db ds:List Int) (k:Nat):Prop :=
 AH ds = AH da * AH (db.take k)∧Dm ds∧ds.length≤da.length + k + 1∧(1≤k→da.length + k≤ds.length)
theorem HT {da db ds os:List Int} {k:Nat} {x:Int} (h:FI da db ds k) (hx:db[k]? = some x) (hv:AH os = AH ds + x * (FL k * AH da)) (hd:Dm os)
 (h1:max ds.length (k + da.length + 1)≤os.length) (h2:os.length≤max ds.length (k + da.length + 1) + 1):FI da db os (k + 1):=by
 obtain ⟨g1,g2,g3,g4⟩:=h;refine ⟨?_,hd,by omega,by omega⟩;rw [hv,g1,DF hx,Int.mul_add];congr 1;rw [Int.mul_comm x,Int.mul_comm (FL k) (AH da),Int.mul_assoc]
theorem Cz (a b:Option Addr) (da db:List Int) (ca cb:Nat) (w:World) (ha:BV w a da) (hb:BV w b db) (ga:Dm da) (gb:Dm db) (la:da.length≤100) (lb:db.length≤100) (lb1:1≤db.length) :
 Calls Tryz.prog 181 #[.slice a da.length ca,.slice b db.length cb] w (Jw (AH da * AH db) (da.length + db.length) (da.length + db.length + 1) w):=by
 obtain ⟨i109,hi,hz0,hz1,hz2⟩:=info_parts Tryz.infoU32;go_enter Tryz.func181,Tryz.ntmps181;go_wp2_with fail;go_loopw [16,5] (fun iv v wr => ∃ (k:Nat) (ds:List Int) (a':Option Addr) (c':Nat),k≤db.length∧FI da db ds k∧iv = .int .i64 k∧v = .slice a' ds.length c'∧BV wr a' ds∧(a' = none→c' = 0)∧Cap ds.length c'∧Gr w wr) (fun iv _ _ => db.length - (intOf iv).toNat);case atStart => exact ⟨0,[],some ⟨w.heap.size,0,none⟩,0,Nat.zero_le _,⟨by simp [AH],(fun _ h => by cases h),by simp,by omega⟩,rfl,rfl,(fun i s h => by simp at h),(fun h => by cases h),⟨Nat.le_refl _,Nat.zero_le _⟩,(Gr.refl _).alloc _⟩
 case round =>
  obtain ⟨k,ds,a',c',hk,hinv,rfl,rfl,hds,hn,hcap,hg⟩:=hrel;obtain ⟨t1,t2,t3,t4⟩:=(show FI da db ds k from hinv)
  clear t1;by_cases hlt:k < db.length
  ·obtain ⟨x,hx⟩:=Ac db k hlt;obtain ⟨bb,ob,rfl,hbb,cx⟩:=(hb.gr hg).get hx;obtain ⟨bx1,bx2⟩:=gb.get hx;have k63:k≤maxLen:=by unfold maxLen;omega
   have kby:i109.bytes * k≤281474976710656:=by
    have:i109.bytes = 4:=by assumption
    rw [this];omega
   go_wp2_with (at_make;refine wpList_make_full wr rfl _ _ 281 rfl wr.heap.size 211 i109 _ 1 Tryz.underlying281 hi hz0 hz1 .i64 .i64 _ _ k rfl rfl rfl rfl kby k63 (Nat.le_refl _) ?_;intro w1 hown1 hgr1);have gw1:Gr wr w1:=(Gr.refl wr).grown hgr1 (fun k h => by cases h);clear hgr1;rw [MP] at hown1;replace hinv:=zH hinv;obtain ⟨wo,rfl⟩:∃ wo:World,wo = wr:=⟨_,rfl⟩
   go_loopw [8,9,25] (fun rv cv jv wx => ∃ (j:Nat) (c:Int) (rs:List Int),Ga da rs k j x c∧j≤da.length∧jv = .int .i64 j∧cv = .int .u32 c∧wx.ownsRow wo.heap.size 211 1 rv rs.length (rs.flatMap Ez)∧Gr wo wx) (fun _ _ jv _ => da.length - (intOf jv).toNat);case atStart =>
    refine ⟨0,0,List.replicate k 0,Ja da k x,Nat.zero_le _,rfl,rfl,?_,gw1⟩;rw [List.length_replicate];exact hown1
   case round =>
    obtain ⟨j,c,rs,hri,hj,rfl,rfl,hown,hgx⟩:=hrel;obtain ⟨r1,r2,r3,r4,r5⟩:=(show Ga da rs k j x c from hri)
    have n1:rs.length + ([(0:Int)]:List Int).length≤maxLen:=by unfold maxLen;simp;omega
    have n2:(rs.length + ([(0:Int)]:List Int).length) * 4≤140737488355328:=by simp;omega
    have n4:wo.heap.size≤wr.heap.size:=hgx.size;have gwx:Gr w wr:=hg.trans hgx;clear r5;replace r1:=zH r1;by_cases hjl:j < da.length
    ·obtain ⟨y,hy⟩:=Ac da j hjl;obtain ⟨ba,oa,rfl,hba,cy⟩:=(ha.gr gwx).get hy;obtain ⟨by1,by2⟩:=ga.get hy;obtain ⟨step,m1,m2⟩:=JR hri hy ⟨bx1,bx2⟩ ⟨by1,by2⟩;have em:=CG (x * y + c) (by omega) (by omega);replace step:=zH step;clear hri;go_wp2_with (at_builtin;refine Ai (k:=1) (enc:=Ez) rfl _ _ 281 rfl wo.heap.size 211 i109 _ 4 Tryz.underlying281 hi hz0 hz1 hz2 rfl (by decide) Bt Dj _ rs rfl (hown.alloc _) (some ⟨wr.heap.size,0,none⟩) 1 [(x * y + c) % 65536] rfl (An Bt wr [(x * y + c) % 65536] _ _ rfl) (fun h => by cases h) n1 n2 (BG n4 _) ?_;intro v2 w2 hown2 hgr2);have hg2:Gr wo w2:=(hgx.alloc _).grown hgr2 (A7 hown);go_wp2_with fail;go_roundw;case rel => exact ⟨j + 1,_,_,step.out,by omega,by go_num,rfl,hown2,hg2⟩
     case measure => simp [intOf];omega
    ·obtain rfl:j = da.length:=by omega
     obtain ⟨v1,v2,v3⟩:=K2 hri;have hz:w.heap.size≤wo.heap.size:=hg.size;clear hri;replace v1:=zH v1;replace v3:=zH v3;go_wp2_with (at_builtin;refine Ai (k:=1) (enc:=Ez) rfl _ _ 281 rfl wo.heap.size 211 i109 _ 4 Tryz.underlying281 hi hz0 hz1 hz2 rfl (by decide) Bt Dj _ rs rfl (hown.alloc _) (some ⟨wr.heap.size,0,none⟩) 1 [c] rfl (An Bt wr [c] _ _ rfl) (fun h => by cases h) n1 n2 (BG n4 _) ?_;intro v5 w2 hown2 hgr2);have hg2:Gr wo w2:=(hgx.alloc _).grown hgr2 (A7 hown);obtain ⟨a2,c2,hv5,hr2,hn2,_⟩:=Af Bt hown2;rw [hv5];have hb:=F7 a' a2 ds (rs ++ [c]) c' c2 w2 (hds.gr hg2) hr2 t2 v2 (by omega) (by rw [v3.out];omega);refine (hb).mono ?_;rintro e w3 ⟨os,a3,c3,rfl,o1,o2,o3,o4,o5,o6,o8,o7⟩;have hinv':=HT hinv.out hx (by rw [o1,v1.out]) o2 (by rw [v3.out] at o3;omega) (by rw [v3.out] at o4;omega);have hgz:Gr w w3:=(hg.trans hg2).trans o7;clear hinv o1 o2 o3 o4;go_wp2_with fail;go_roundw;case rel => exact ⟨k + 1,os,a3,c3,by omega,hinv',by go_num,rfl,o5,o6,o8,hgz⟩
     case measure => simp [intOf];omega
  ·obtain rfl:k = db.length:=by omega
   obtain ⟨t1,_,_,_⟩:=hinv;rw [List.take_length] at t1;replace t1:=zH t1;go_wp2_with fail;go_ret;exact ⟨ds,a',c',rfl,t1.out,t2,by omega,by omega,hds,hn,hcap,hg⟩
def HQ (ds:List Int) (i:Nat):Int:=ds.getD i 0
theorem HD {ds:List Int} {i:Nat} {x:Int} (h:ds[i]? = some x):HQ ds i = x:=by unfold HQ;rw [List.getD_eq_getElem?_getD,h];rfl
theorem HE {ds:List Int} {i:Nat} (h:ds.length≤i):HQ ds i = 0:=by unfold HQ;rw [List.getD_eq_getElem?_getD,List.getElem?_eq_none h];rfl
theorem dig_bd {ds:List Int} (h:Dm ds) (i:Nat):0≤HQ ds i∧HQ ds i < 65536:=by
 by_cases hi:i < ds.length
 ·obtain ⟨x,hx⟩:=Ac ds i hi;rw [HD hx];exact h.get hx
 ·rw [HE (by omega)];decide
theorem Fr (ds:List Int) (i:Nat):AH (ds.take (i + 1)) = AH (ds.take i) + FL i * HQ ds i:=by
 by_cases hi:i < ds.length
 ·obtain ⟨x,hx⟩:=Ac ds i hi;rw [HD hx];exact DF hx
 ·rw [HE (by omega),FQ (by omega)];simp
theorem LL {ds:List Int} (h:Dm ds) (i:Nat):0≤AH (ds.take i)∧AH (ds.take i) < FL i:=by
 have h1:=Fp (h.take i);refine ⟨h1.1,Int.lt_of_lt_of_le h1.2 ?_⟩;rw [List.length_take];unfold FL;have:=Nat.pow_le_pow_right (show 0 < 65536 by decide) (Nat.min_le_left i ds.length);omega
theorem CQ (a:Option Addr) (da:List Int) (ca i:Nat) (w:World) (ha:BV w a da) :
 Calls Tryz.prog 220 #[.slice a da.length ca,.int .i64 i] w fun e w' => e = .returned (.int .u32 (HQ da i))∧w = w':=by
 by_cases hi:i < da.length
 ·obtain ⟨x,hx⟩:=Ac da i hi;obtain ⟨ba,oa,rfl,hba,cx⟩:=ha.get hx;rw [HD hx];go_enter Tryz.func220,Tryz.ntmps220;go_wp2_with fail;go_ret;exact ⟨rfl,rfl⟩
 ·rw [HE (by omega)];go_enter Tryz.func220,Tryz.ntmps220;go_wp2_with fail;go_ret;exact ⟨rfl,rfl⟩
theorem IA {P A B x y:Int} (hA:0≤A∧A < P) (hB:0≤B∧B < P) (h:x < y):A + P * x < B + P * y:=by
 have h1:P * (x + 1)≤P * y:=Int.mul_le_mul_of_nonneg_left (by omega) (by omega);rw [Int.mul_add] at h1;omega
theorem MR {da db:List Int} (ga:Dm da) (gb:Dm db) {i:Nat} (h:AH da + AH (db.take (i + 1)) = AH db + AH (da.take (i + 1))) (hne:HQ da i ≠ HQ db i) :
 (decide (AH da < AH db)) = decide (HQ da i < HQ db i):=by
 rw [Fr,Fr] at h;have h1:=LL ga i;have h2:=LL gb i;rcases Int.lt_or_gt_of_ne hne with hl | hl
 ·have:=IA h1 h2 hl;rw [decide_eq_true hl,decide_eq_true (by omega)]
 ·have:=IA h2 h1 hl;rw [decide_eq_false (by omega),decide_eq_false (by omega)]
theorem IU (a b:Option Addr) (da db:List Int) (ca cb:Nat) (w:World) (ha:BV w a da) (hb:BV w b db) (ga:Dm da) (gb:Dm db) (la:da.length≤1000) (lb:db.length≤1000) :
 Calls Tryz.prog 180 #[.slice a da.length ca,.slice b db.length cb] w fun e w' => e = .returned (.bool (decide (AH da < AH db)))∧w = w':=by
 go_enter Tryz.func180,Tryz.ntmps180;go_wp2_with fail;all_goals
  go_loopw [5] (fun iv wr => ∃ i:Int,-1≤i∧i < (max da.length db.length:Nat)∧iv = .int .i64 i∧AH da + AH (db.take (i + 1).toNat) = AH db + AH (da.take (i + 1).toNat)∧wr = w) (fun iv _ => (intOf iv + 1).toNat);case atStart =>
   refine ⟨(max da.length db.length:Nat) - 1,by omega,by omega,?_,?_,rfl⟩
   ·go_num
   ·rw [List.take_of_length_le (by omega),List.take_of_length_le (by omega)];omega
  case round =>
   obtain ⟨i,h1,h2,rfl,he,rfl⟩:=hrel;by_cases h0:0≤i
   ·obtain ⟨n,rfl⟩:=Int.eq_ofNat_of_zero_le h0;have hn:n≤1000:=by omega
    rw [show ((n:Int) + 1).toNat = n + 1 by omega] at he;by_cases hne:HQ da n = HQ db n
    ·have he':AH da + AH (db.take n) = AH db + AH (da.take n):=by
      rw [Fr,Fr,hne] at he;omega
     clear he;replace he':=Lib.hid he';go_wp2_with fail;refine (CQ a da ca n _ ha).mono ?_;rintro e wa ⟨rfl,rfl⟩;go_wp2_with fail;refine (CQ b db cb n _ hb).mono ?_;rintro e wb ⟨rfl,rfl⟩;go_wp2_with fail;go_roundw;case rel => exact ⟨(n:Int) - 1,by omega,by omega,by go_num,by rw [show ((n:Int) - 1 + 1).toNat = n by omega];exact he'.out,trivial⟩
     case measure => simp [intOf]
    ·have hdec:=MR ga gb he hne;clear he;replace hdec:=zH hdec;go_wp2_with fail;refine (CQ a da ca n _ ha).mono ?_;rintro e wa ⟨rfl,rfl⟩;go_wp2_with fail;refine (CQ b db cb n _ hb).mono ?_;rintro e wb ⟨rfl,rfl⟩;go_wp2_with fail;go_wp2_with fail;refine (CQ a da ca n _ ha).mono ?_;rintro e wc ⟨rfl,rfl⟩;go_wp2_with fail;refine (CQ b db cb n _ hb).mono ?_;rintro e wd ⟨rfl,rfl⟩;go_wp2_with fail;go_ret;exact ⟨by rw [hdec.out];rfl,rfl⟩
   ·obtain rfl:i = -1:=by omega
    have hr:¬ AH da < AH db:=by
     simp [AH] at he;omega
    have hdec:=decide_eq_false hr;clear he hr;replace hdec:=zH hdec;go_wp2_with fail;go_ret;exact ⟨by rw [hdec.out];rfl,rfl⟩
theorem Jh (i:Nat) (x y:Int) (hx0:0≤x) (hx:x % 2 ^ i = 0) (hx1:x < 18446744073709551616) (hy0:0≤y) (hy:y < 2 ^ i) (hi:y < 18446744073709551616):bits .or .u64 y x = y + x:=by
 have:=bits_join .u64 64 (by decide) (fun n h0 h1 => by rw [IntKind.wrap_u64];omega) i x y hx0 hx hx1 hy0 hy hi;rw [Int.add_comm,← this];show IntKind.u64.wrap _ = IntKind.u64.wrap _;rw [BitVec.or_comm]
theorem Of (a b c d:Int) (ha:0≤a∧a < 65536) (hb:0≤b∧b < 65536) (hc:0≤c∧c < 65536) (hd:0≤d∧d < 65536) :
 bits .or .u64 (bits .or .u64 (bits .or .u64 (IntKind.u64.wrap (HQ [a,b,c,d] 0)) (IntKind.u64.wrap (IntKind.u64.wrap (HQ [a,b,c,d] 1) * 65536))) (IntKind.u64.wrap (IntKind.u64.wrap (HQ [a,b,c,d] 2) * 4294967296))) (IntKind.u64.wrap (IntKind.u64.wrap (HQ [a,b,c,d] 3) * 281474976710656)) = AH [a,b,c,d]:=by
 have e0:HQ [a,b,c,d] 0 = a:=rfl;have e1:HQ [a,b,c,d] 1 = b:=rfl;have e2:HQ [a,b,c,d] 2 = c:=rfl;have e3:HQ [a,b,c,d] 3 = d:=rfl;have w0:IntKind.u64.wrap a = a:=by rw [IntKind.wrap_u64];omega
 have w1:IntKind.u64.wrap (IntKind.u64.wrap b * 65536) = b * 65536:=by rw [IntKind.wrap_u64,IntKind.wrap_u64];omega
 have w2:IntKind.u64.wrap (IntKind.u64.wrap c * 4294967296) = c * 4294967296:=by rw [IntKind.wrap_u64,IntKind.wrap_u64];omega
 have w3:IntKind.u64.wrap (IntKind.u64.wrap d * 281474976710656) = d * 281474976710656:=by rw [IntKind.wrap_u64,IntKind.wrap_u64];omega
 rw [e0,e1,e2,e3,w0,w1,w2,w3];rw [Jh 16 (b * 65536) a (by omega) (by omega) (by omega) (by omega) (by omega) (by omega),Jh 32 (c * 4294967296) (a + b * 65536) (by omega) (by omega) (by omega) (by omega) (by omega) (by omega)];rw [Jh 48 (d * 281474976710656) _ (by omega) (by omega) (by omega) (by omega) (by omega) (by omega)];simp [AH];omega
theorem Ns (ad:Option Addr) (a b c d:Int) (ca:Nat) (w:World) (hl:BV w ad [a,b,c,d]) (g:Dm [a,b,c,d]) :
 Calls Tryz.prog 269 #[.slice ad 4 ca] w fun e w' => e = .returned (.tuple #[.int .u64 (AH [a,b,c,d]),.bool true])∧w = w':=by
 have e1:=Of a b c d (g.get (i:=0) rfl) (g.get (i:=1) rfl) (g.get (i:=2) rfl) (g.get (i:=3) rfl);replace e1:=zH e1;go_enter Tryz.func269,Tryz.ntmps269;go_wp2_with fail;refine wp_loop_rounds 1 ?_;rw [rounds_succ];go_wp2_with fail;refine (CQ ad [a,b,c,d] ca 0 _ hl).mono ?_;rintro e wa ⟨rfl,rfl⟩;go_wp2_with fail;refine (CQ ad [a,b,c,d] ca 1 _ hl).mono ?_;rintro e wb ⟨rfl,rfl⟩;go_wp2_with fail;refine (CQ ad [a,b,c,d] ca 2 _ hl).mono ?_;rintro e wc ⟨rfl,rfl⟩;go_wp2_with fail;refine (CQ ad [a,b,c,d] ca 3 _ hl).mono ?_;rintro e wd ⟨rfl,rfl⟩;go_wp2_with fail;go_ret2;exact ⟨by rw [← e1.out];rfl,rfl⟩
theorem Oz (ad:Option Addr) (ds:List Int) (ca:Nat) (w:World) (hl:BV w ad ds) (g:Dm ds) (h4:ds.length = 4) :
 Calls Tryz.prog 269 #[.slice ad 4 ca] w fun e w' => e = .returned (.tuple #[.int .u64 (AH ds),.bool true])∧w = w':=by
 match ds,h4 with
 | [a,b,c,d],_ => exact Ns ad a b c d ca w hl g
def BB (w:World) (b:Nat) (x:Int):Prop :=
 w.heap[b]? = some (.cells #[.int .u32 (x % 65536),.int .u32 (x / 65536 % 65536),.int .u32 (x / 4294967296 % 65536),.int .u32 (x / 281474976710656)] 211 (0,0))
theorem BB.gr {w w':World} {b:Nat} {x:Int} (h:BB w b x) (g:Gr w w'):BB w' b x:=by
 unfold BB at *;rw [Below.block g _ (Array.getElem?_eq_some_iff.1 h).1];exact h
theorem BB.own {base:Nat} {w:World} {b:Nat} {x:Int} (h:BB w b x) (hb:base≤b):w.ownsRow base 211 1 (.slice (some ⟨b,0,none⟩) 4 4) 4 ((B7 x).flatMap Ez) :=
 ⟨rfl,.inr ⟨b,4,_,rfl,hb,h,Nat.le_refl _,by unfold maxLen;decide,rfl,rfl⟩⟩
theorem BB.news {w:World} {b:Nat} {x:Int} (h:BB w b x):∀ j u,((B7 x).flatMap Ez)[j]? = some u→w.cell? ((⟨b,0,none⟩:Addr).add j) = some u :=
 World.news_of_block h
theorem BB.big {w:World} {b:Nat} {x:Int} (h:BB w b x):BV w (some ⟨b,0,none⟩) (B7 x):=by
 intro i s hi;refine ⟨b,0,rfl,(Array.getElem?_eq_some_iff.1 h).1,fun j u hu => ?_⟩;have h1:=FA Bt (B7 x) i s j u hi hu;have:=h.news _ _ h1;unfold Addr.add at this;rw [Nat.zero_add];split at this
 ·rename_i h0;rw [h0];exact this
 ·simpa using this
theorem HJ (n:Int) (w:World) (h0:0≤n) (h1:n < 18446744073709551616) :
 Calls Tryz.prog 219 #[.int .u64 n] w fun e w' => ∃ b,e = .returned (.slice (some ⟨b,0,none⟩) 4 4)∧w.heap.size≤b∧BB w' b n∧Gr w w':=by
 have e0:=Dc n h0 h1;have e1:=Dc (n / 65536) (by omega) (by omega);have e2:=Dc (n / 4294967296) (by omega) (by omega);go_enter Tryz.func219,Tryz.ntmps219;go_wp2_with fail;go_ret;exact ⟨w.heap.size,rfl,Nat.le_refl _,heap_alloc_new w _,(Gr.refl _).alloc _⟩
theorem Nb (n:Int):AH (B7 (AR n) ++ B7 (AV n)) = n:=by
 rw [Cd,ET,ET];have:FL (B7 (AR n)).length = 18446744073709551616:=by show FL 4 = _;decide
 rw [this];have:=Fn n;omega
theorem Nc (l:List Int):∀ u ∈ l.flatMap Ez,u.oneCell' = true:=by
 intro u hu;obtain ⟨y,_,hy⟩:=List.mem_flatMap.1 hu;exact Dj y u hy
theorem Fw (n:Int) (w:World) (hn:BC n) :
 Calls Tryz.prog 179 #[.agg #[.int .u64 (AV n),.int .u64 (AR n)]] w (Jw n 8 8 w):=by
 obtain ⟨i109,hi,hz0,hz1,hz2⟩:=info_parts Tryz.infoU32;obtain ⟨l1,l2⟩:=EH n;obtain ⟨h1,h2⟩:=EI hn;have hfin:=Nb n;replace hfin:=zH hfin;go_enter Tryz.func179,Tryz.ntmps179;go_wp2_with fail;go_region_held3 (fun w' => w'.cell? ⟨w.heap.size,0,none⟩ = some (.int .u64 (AV n))∧w'.cell? ⟨w.heap.size,1,none⟩ = some (.int .u64 (AR n))) (simp (maxDischargeDepth:=8) [go_sem, *])
  (first
   | (go_at_call 219;(with_reducible refine (HJ (AR n) _ l1 l2).mono ?_);rintro e wl ⟨bl,rfl,ll,hbl,gl⟩;(try simp only [zL,World.size_drew] at ll);obtain ⟨cl,fl,sl⟩:=gl.cells;(try simp only [zL,World.size_drew] at cl fl sl);have zl:w.heap.size < wl.heap.size:=(by omega);have kl:=fun o => cl w.heap.size o (by omega))
   | (go_at_call 219;(with_reducible refine (HJ (AV n) _ h1 h2).mono ?_);rintro e wh ⟨bh,rfl,lh,hbh,gh⟩;obtain ⟨ch,fh,sh⟩:=gh.cells;(try simp only [zL,World.size_drew] at ch fh sh);have kh:=fun o => ch w.heap.size o (by omega))
   | (refine step_append_lies _ (by rfl) _ _ _ (by rfl) (w.heap.size + 1) 211 i109 _ 1 4 Tryz.underlying281 hi hz0 hz1 hz2 rfl (by omega) (.slice (some ⟨bl,0,none⟩) 4 4) 4 _ (by rfl) ((hbl.gr gh).own ll) ⟨bh,0,none⟩ 4 4 _ (by rfl) (by rfl) hbh.news (Nc _) (by omega) (by unfold maxLen;omega) (by omega) (by omega) _ rfl ?_;intro g8 c8 w8 hown hgrow hat hlt;have k8:=fun o => hgrow.cell_far ⟨w.heap.size,o,none⟩ (by show w.heap.size < _;omega) (by simp [Value.ownBlock];omega))
   | fail)
 go_wp2_with fail;go_ret;have hown':w8.ownsRow (w.heap.size + 1) 211 1 (.slice (some ⟨g8,0,none⟩) (4 + 4) c8) (B7 (AR n) ++ B7 (AV n)).length ((B7 (AR n) ++ B7 (AV n)).flatMap Ez):=by
  rw [List.flatMap_append];exact hown
 obtain ⟨a',c',hv,hr,hn',_⟩:=Af Bt hown';cases hv
 refine ⟨B7 (AR n) ++ B7 (AV n),some ⟨g8,0,none⟩,c8,rfl,hfin.out,(EU l1 l2).append (EU h1 h2),Nat.le_refl _,Nat.le_refl _,hr,hn',LT hown' rfl,?_⟩;exact Gr.grown (((((Gr.refl w).alloc _).drew).trans gl).trans gh) hgrow (fun k hk => by cases hk;show w.heap.size≤bl;omega)
theorem Ma:FL 4 = 18446744073709551616:=by decide
theorem Md {l:List Int} (hd:Dm l) (h:AH l = 0):∀ d ∈ l,d = 0:=by
 induction l with
 | nil => intro d h;cases h
 | cons x r ih =>
  intro d hm;have h1:=hd x (List.mem_cons_self ..);have h2:Dm r:=fun y hy => hd y (List.mem_cons_of_mem _ hy)
  have h3:=(Fp h2).1;rw [AH] at h;rcases List.mem_cons.1 hm with rfl | hm
  ·omega
  ·exact ih h2 (by omega) d hm
theorem Dm.drop {a:List Int} (h:Dm a) (n:Nat):Dm (a.drop n):=fun d hd => h d (List.mem_of_mem_drop hd)
theorem Pg {ds:List Int} (hd:Dm ds) (h8:8≤ds.length) (hw:AH ds < 340282366920938463463374607431768211456) :
 AH (ds.take 4) = AR (AH ds)∧AH ((ds.drop 4).take 4) = AV (AH ds)∧∀ i d,8≤i→ds[i]? = some d→d = 0:=by
 have e1:=Cd (ds.take 4) (ds.drop 4);rw [List.take_append_drop,List.length_take,Nat.min_eq_left (by omega),Ma] at e1;have e2:=Cd ((ds.drop 4).take 4) ((ds.drop 4).drop 4);rw [List.take_append_drop,List.length_take,List.length_drop,Nat.min_eq_left (by omega),Ma] at e2;have b1:=Fp (hd.take 4);rw [List.length_take,Nat.min_eq_left (by omega),Ma] at b1;have b2:=Fp ((hd.drop 4).take 4);rw [List.length_take,List.length_drop,Nat.min_eq_left (by omega),Ma] at b2;have b3:=(Fp ((hd.drop 4).drop 4)).1;have hz:AH ((ds.drop 4).drop 4) = 0:=by omega
 rw [hz] at e2;unfold AR AV;refine ⟨by omega,by omega,fun i d hi hid => Md ((hd.drop 4).drop 4) hz d ?_⟩;rw [List.drop_drop];refine List.mem_of_getElem? (i:=i - 8) ?_;rw [List.getElem?_drop,← hid];congr 1;omega
theorem BV.take {w:World} {a:Option Addr} {l:List Int} (h:BV w a l) (n:Nat):BV w a (l.take n):=MA h n
theorem BV.drop {w:World} {b off:Nat} {l:List Int} (h:BV w (some ⟨b,off,none⟩) l) (n:Nat):BV w (some ⟨b,off + n,none⟩) (l.drop n):=by
 intro i s hi;rw [List.getElem?_drop] at hi;obtain ⟨b',o',ha,hb,hc⟩:=h _ s hi;cases ha
 exact ⟨b,off + n,rfl,hb,fun j u hu => by have:=hc j u hu;rw [Nat.mul_one] at this ⊢;rw [Nat.add_assoc off];exact this⟩
theorem Iu (a:Option Addr) (ds:List Int) (c:Nat) (v:Int) (w:World) (ha:BV w a ds) (hd:Dm ds) (h8:8≤ds.length) (hm:ds.length≤100) (hcap:Cap ds.length c) (hv:AH ds = v) (hw:BC v) :
 Calls Tryz.prog 251 #[.slice a ds.length c] w fun e w' => e = .returned (.tuple #[.agg #[.int .u64 (AV v),.int .u64 (AR v)],.bool true])∧Gr w w':=by
 subst hv;obtain ⟨hc,hc'⟩:=hcap;obtain ⟨p1,p2,p3⟩:=Pg hd h8 hw.2;obtain ⟨x,hx⟩:=Ac ds 0 (by omega);obtain ⟨b,off,rfl,_,_⟩:=ha.get hx;clear hx;unfold maxLen at hc';have f1:=fun w hw => Oz (some ⟨b,off,none⟩) (ds.take 4) c w hw (hd.take 4) (by rw [List.length_take];omega)
 have f2:=fun w hw => Oz (some ⟨b,off + 4,none⟩) ((ds.drop 4).take 4) (c - 4) w hw ((hd.drop 4).take 4) (by rw [List.length_take,List.length_drop];omega)
 rw [p1] at f1;rw [p2] at f2;refine AZ ?_ f1 f2 p3;clear f1 f2 p3;intro f1 f2 p3;clear p1 p2 hw;go_enter Tryz.func251,Tryz.ntmps251;go_wp2_with fail;go_loopw [4] (fun iv wr => ∃ i:Nat,8≤i∧i≤ds.length∧iv = .int .i64 i∧wr = w.alloc (.cells #[.int .u64 0,.int .u64 0] 193)) (fun iv _ => ds.length - (intOf iv).toNat);case atStart => exact ⟨8,Nat.le_refl _,h8,rfl,rfl⟩
 case round =>
  obtain ⟨i,hi8,hil,rfl,rfl⟩:=hrel;by_cases hlt:i < ds.length
  ·obtain ⟨d,hdi⟩:=Ac ds i hlt;obtain rfl:=p3.out i d hi8 hdi;obtain ⟨b',o',he,hb,c0⟩:=ha.get hdi;cases he
   go_wp2_with fail;go_roundw;case rel => exact ⟨i + 1,by omega,by omega,by go_num,trivial⟩
   case measure => simp [intOf];omega
  ·go_wp2_with fail;refine wp_loop_rounds 1 ?_;rw [rounds_succ];go_wp2_with fail;refine (f1.out _ ((ha.gr ((Gr.refl w).alloc _)).take 4)).mono ?_;rintro e wa ⟨rfl,rfl⟩;go_wp2_with fail;refine (f2.out _ (((ha.gr ((Gr.refl w).alloc _)).drop 4).take 4)).mono ?_;rintro e wb ⟨rfl,rfl⟩;go_wp2_with fail;refine bodyPost_ret (v:=.tuple #[.agg #[.int .u64 (AV (AH ds)),.int .u64 (AR (AH ds))],.bool true]) (by simp (maxDischargeDepth:=8) [results,Tryz.results251,go_sem, *]) rfl ⟨rfl,?_⟩;repeat (first | exact Gr.refl _ | apply Gr.alloc | apply Gr.drew | apply Gr.drewN | (refine Gr.setCell ?_ (by simp) _) | (refine Gr.trans ?_ (by assumption)))
theorem Nn {a b:Int}:orI (BS (AV a) (AV b)) (BS (AR a) (AR b)) = BS a b:=by
 have e1:=Fn a;have e2:=Fn b;have l1:=Jj a;have l2:=Jj b;unfold orI BS;by_cases h1:AV a < AV b
 ·rw [if_pos h1,if_neg (by decide),if_pos (show a < b by omega)]
 ·by_cases h2:AV b < AV a
  ·rw [if_neg h1,if_pos h2,if_neg (by decide),if_neg (show ¬ a < b by omega),if_pos (show b < a by omega)]
  ·rw [if_neg h1,if_neg h2,if_pos rfl];by_cases h3:AR a < AR b
   ·rw [if_pos h3,if_pos (show a < b by omega)]
   ·by_cases h4:AR b < AR a
    ·rw [if_neg h3,if_pos h4,if_neg (show ¬ a < b by omega),if_pos (show b < a by omega)]
    ·rw [if_neg h3,if_neg h4,if_neg (show ¬ a < b by omega),if_neg (show ¬ b < a by omega)]
theorem KA (a b:Int) (w:World) :
 Calls Tryz.prog 264 #[.agg #[.int .u64 (AV a),.int .u64 (AR a)],.agg #[.int .u64 (AV b),.int .u64 (AR b)]] w fun e w' => e = .returned (.int .i64 (BS a b))∧Gr w w':=by
 have:=KB a b w;rw [Nn] at this;exact this
theorem Gu (n d q t:Int) (w:World) (hn:BC n) (hd:BC d) (h0:0 < d) (hq:0≤q) (hq':q≤4294967296) (ht:1≤t) (ht':t≤4294967296) (h1:BC (n * t)) (h2:BC (d * q)) :
 Calls Tryz.prog 238 #[.agg #[.int .u64 (AV n),.int .u64 (AR n),.int .u64 (AV d),.int .u64 (AR d)],.int .i64 q,.int .i64 t] w fun e w' => e = .returned (.tuple #[.int .i64 (BS (n * t) (d * q)),.bool true])∧Gr w w':=by
 have wq:Fj q:=⟨hq,by omega⟩
 have wt:Fj t:=⟨by omega,by omega⟩
 go_enter Tryz.func238,Tryz.ntmps238;go_wp2_with fail;refine (IB n d q t _ hd h0 hq ht).mono ?_;rintro e wa ⟨rfl,ga⟩;obtain ⟨ca,fa,sa⟩:=ga.cells;try simp only [Aa] at ca fa sa
 try simp only [zL] at ca fa sa
 try simp only [zD] at ca fa sa
 try simp only [zS] at ca fa sa
 have za0:w.heap.size < wa.heap.size:=by omega
 have ya0:w.heap.size≤wa.heap.size:=by omega
 have ka0:=fun o => ca (w.heap.size) o (by omega)
 have ja0:=fun o => fa (w.heap.size) o (by omega)
 go_wp2_with fail;refine (D7 n t _ hn wt h1).mono ?_;rintro e wb ⟨rfl,gb⟩;obtain ⟨cb,fb,sb⟩:=gb.cells;try simp only [Aa] at cb fb sb
 try simp only [zL] at cb fb sb
 try simp only [zD] at cb fb sb
 try simp only [zS] at cb fb sb
 have zb0:w.heap.size < wb.heap.size:=by omega
 have yb0:w.heap.size≤wb.heap.size:=by omega
 have kb0:=fun o => cb (w.heap.size) o (by omega)
 have jb0:=fun o => fb (w.heap.size) o (by omega)
 go_wp2_with fail;refine (D7 d q _ hd wq h2).mono ?_;rintro e wc ⟨rfl,gc⟩;obtain ⟨cc,fc,sc⟩:=gc.cells;try simp only [Aa] at cc fc sc
 try simp only [zL] at cc fc sc
 try simp only [zD] at cc fc sc
 try simp only [zS] at cc fc sc
 have zc0:w.heap.size < wc.heap.size:=by omega
 have yc0:w.heap.size≤wc.heap.size:=by omega
 have kc0:=fun o => cc (w.heap.size) o (by omega)
 have jc0:=fun o => fc (w.heap.size) o (by omega)
 have zc1:wb.heap.size < wc.heap.size:=by omega
 have yc1:wb.heap.size≤wc.heap.size:=by omega
 have kc1:=fun o => cc (wb.heap.size) o (by omega)
 have jc1:=fun o => fc (wb.heap.size) o (by omega)
 go_wp2_with fail;refine (KA (n * t) (d * q) _).mono ?_;rintro e wd ⟨rfl,gd⟩;obtain ⟨cd,fd,sd⟩:=gd.cells;try simp only [Aa] at cd fd sd
 try simp only [zL] at cd fd sd
 try simp only [zD] at cd fd sd
 try simp only [zS] at cd fd sd
 have zd0:w.heap.size < wd.heap.size:=by omega
 have yd0:w.heap.size≤wd.heap.size:=by omega
 have kd0:=fun o => cd (w.heap.size) o (by omega)
 have jd0:=fun o => fd (w.heap.size) o (by omega)
 have zd1:wb.heap.size < wd.heap.size:=by omega
 have yd1:wb.heap.size≤wd.heap.size:=by omega
 have kd1:=fun o => cd (wb.heap.size) o (by omega)
 have jd1:=fun o => fd (wb.heap.size) o (by omega)
 have zd2:wc.heap.size < wd.heap.size:=by omega
 have yd2:wc.heap.size≤wd.heap.size:=by omega
 have kd2:=fun o => cd (wc.heap.size) o (by omega)
 have jd2:=fun o => fd (wc.heap.size) o (by omega)
 go_wp2_with fail;go_ret2;refine ⟨rfl,?_⟩;repeat (first | exact Gr.refl _ | apply Gr.alloc | apply Gr.drew | apply Gr.drewN | (refine Gr.setCell ?_ (by simp) _) | (refine Gr.trans ?_ (by assumption)))
theorem Lj (n q t:Int) (w:World) :
 Calls Tryz.prog 261 #[.agg #[.int .u64 (AV n),.int .u64 (AR n),.int .u64 0,.int .u64 0],.int .i64 q,.int .i64 t] w fun e w' => e = .returned (.bool false)∧Gr w w':=by
 go_enter Tryz.func261,Tryz.ntmps261;go_wp2;all_goals (go_ret;exact ⟨rfl,(Gr.refl _).alloc _⟩)
theorem FH (n q t:Int) (w:World) :
 Calls Tryz.prog 238 #[.agg #[.int .u64 (AV n),.int .u64 (AR n),.int .u64 0,.int .u64 0],.int .i64 q,.int .i64 t] w fun e w' => e = .returned (.tuple #[.int .i64 0,.bool false])∧Gr w w':=by
 go_enter Tryz.func238,Tryz.ntmps238;go_wp2_with fail;refine (Lj n q t _).mono ?_;rintro e wa ⟨rfl,ga⟩;obtain ⟨ca,fa,sa⟩:=ga.cells;try simp only [Aa] at ca fa sa
 try simp only [zL] at ca fa sa
 try simp only [zD] at ca fa sa
 try simp only [zS] at ca fa sa
 have za0:w.heap.size < wa.heap.size:=by omega
 have ya0:w.heap.size≤wa.heap.size:=by omega
 have ka0:=fun o => ca (w.heap.size) o (by omega)
 have ja0:=fun o => fa (w.heap.size) o (by omega)
 go_wp2_with fail;go_ret2;refine ⟨rfl,?_⟩;repeat (first | exact Gr.refl _ | apply Gr.alloc | apply Gr.drew | apply Gr.drewN | (refine Gr.setCell ?_ (by simp) _) | (refine Gr.trans ?_ (by assumption)))
def Nz (p:Int × Int):Prop:=0≤p.1∧p.1≤8 * 18446744073709551616∧1≤p.2∧p.2≤18446744073709551616
theorem Ip {l:List Ao} (h:AY l = true) (h8:l.length≤8):Nz (Ah l):=by
 have b:=FS l h l.length (Nat.le_refl _);rw [List.take_length] at b;have p:=GR h8;have p0:=FK l.length;have m:=(Cw (show (0:Int)≤(l.length:Int) by omega) (show (l.length:Int)≤8 by omega) (show 0≤CZ l.length by omega) p).2;exact ⟨b.1,by omega,b.2.2.1,by omega⟩
theorem Gv (p:Int × Int) (q t:Int) (w:World) (hp:Nz p) (hq:0≤q) (hq':q≤4294967296) (ht:1≤t) (ht':t≤4294967296) :
 Calls Tryz.prog 238 #[Eg p,.int .i64 q,.int .i64 t] w fun e w' => e = .returned (.tuple #[.int .i64 (BS (p.1 * t) (p.2 * q)),.bool true])∧Gr w w':=by
 obtain ⟨h1,h2,h3,h4⟩:=hp;have m1:=Cw h1 h2 (show 0≤t by omega) ht';have m2:=Cw (show 0≤p.2 by omega) h4 hq hq';exact Gu p.1 p.2 q t w ⟨h1,by omega⟩ ⟨by omega,by omega⟩ (by omega) hq hq' ht ht' ⟨m1.1,by omega⟩ ⟨m2.1,by omega⟩
theorem KO (p:Int × Int) (s:Ao) (w:World) (hp:Nz p) (hs:s.leg = true) :
 Calls Tryz.prog 235 #[Eg p,.agg #[.int .i64 s.k,.int .i64 s.q,.int .i64 s.t]] w fun e w' => e = .returned (.tuple #[.int .i64 (BS (p.1 * s.t) (p.2 * s.q)),.bool true])∧Gr w w':=by
 obtain ⟨h1,h2,h3,h4,h5⟩:=(Ao.leg_iff _).1 hs;replace hs:=zH hs;go_enter Tryz.func235,Tryz.ntmps235;go_wp2_with fail;refine (Bk s.k s.q s.t _ hs.out).mono ?_;rintro e wa ⟨rfl,ga⟩;obtain ⟨ca,fa,sa⟩:=ga.cells;try simp only [Aa] at ca fa sa
 try simp only [zL] at ca fa sa
 try simp only [zD] at ca fa sa
 try simp only [zS] at ca fa sa
 have za0:w.heap.size < wa.heap.size:=by omega
 have ya0:w.heap.size≤wa.heap.size:=by omega
 have ka0:=fun o => ca (w.heap.size) o (by omega)
 have ja0:=fun o => fa (w.heap.size) o (by omega)
 have za1:w.heap.size + 1 < wa.heap.size:=by omega
 have ka1:=fun o => ca (w.heap.size + 1) o (by omega)
 have ja1:=fun o => fa (w.heap.size + 1) o (by omega)
 go_wp2_with fail;refine (Gv p s.q s.t _ hp (by omega) (by omega) (by omega) (by omega)).mono ?_;rintro e wb ⟨rfl,gb⟩;obtain ⟨cb,fb,sb⟩:=gb.cells;try simp only [Aa] at cb fb sb
 try simp only [zL] at cb fb sb
 try simp only [zD] at cb fb sb
 try simp only [zS] at cb fb sb
 have zb0:w.heap.size < wb.heap.size:=by omega
 have yb0:w.heap.size≤wb.heap.size:=by omega
 have kb0:=fun o => cb (w.heap.size) o (by omega)
 have jb0:=fun o => fb (w.heap.size) o (by omega)
 have zb1:w.heap.size + 1 < wb.heap.size:=by omega
 have kb1:=fun o => cb (w.heap.size + 1) o (by omega)
 have jb1:=fun o => fb (w.heap.size + 1) o (by omega)
 go_wp2_with fail;go_ret2;refine ⟨rfl,?_⟩;repeat (first | exact Gr.refl _ | apply Gr.alloc | apply Gr.drew | apply Gr.drewN | (refine Gr.setCell ?_ (by simp) _) | (refine Gr.trans ?_ (by assumption)))
theorem I0 (p:Int × Int) (w:World) (hp:Nz p) :
 Calls Tryz.prog 235 #[Eg p,.agg #[.int .i64 0,.int .i64 0,.int .i64 0]] w fun e w' => e = .returned (.tuple #[.int .i64 (BS p.1 p.2),.bool true])∧Gr w w':=by
 have hx:=fun w => Gv p 1 1 w hp (by decide) (by decide) (by decide) (by decide)
 rw [Int.mul_one,Int.mul_one] at hx;replace hx:=zH hx;go_enter Tryz.func235,Tryz.ntmps235;go_wp2_with fail;refine (hx.out _).mono ?_;rintro e wb ⟨rfl,gb⟩;obtain ⟨cb,fb,sb⟩:=gb.cells;try simp only [Aa] at cb fb sb
 try simp only [zL] at cb fb sb
 try simp only [zD] at cb fb sb
 try simp only [zS] at cb fb sb
 have zb0:w.heap.size < wb.heap.size:=by omega
 have yb0:w.heap.size≤wb.heap.size:=by omega
 have kb0:=fun o => cb (w.heap.size) o (by omega)
 have jb0:=fun o => fb (w.heap.size) o (by omega)
 have zb1:w.heap.size + 1 < wb.heap.size:=by omega
 have kb1:=fun o => cb (w.heap.size + 1) o (by omega)
 have jb1:=fun o => fb (w.heap.size + 1) o (by omega)
 go_wp2_with fail;go_ret2;refine ⟨rfl,?_⟩;repeat (first | exact Gr.refl _ | apply Gr.alloc | apply Gr.drew | apply Gr.drewN | (refine Gr.setCell ?_ (by simp) _) | (refine Gr.trans ?_ (by assumption)))
theorem Jw.mono {x:Int} {n m n' m':Nat} {w:World} {e:Ending} {w':World} (h:Jw x n m w e w') (hn:n'≤n) (hm:m≤m'):Jw x n' m' w e w':=by
 obtain ⟨ds,a,c,h1,h2,h3,h4,h5,h6⟩:=h;exact ⟨ds,a,c,h1,h2,h3,Nat.le_trans hn h4,Nat.le_trans h5 hm,h6⟩
theorem Jr (a:Option Addr) (b:Nat) (da:List Int) (ca:Nat) (x n:Int) (w:World) (ha:BV w a da) (hb:BB w b n) (ga:Dm da) (hx:AH da = x) (l1:8≤da.length) (l2:da.length≤8) (h0:0≤n) (h1:n < 18446744073709551616) :
 Calls Tryz.prog 181 #[.slice a da.length ca,.slice (some ⟨b,0,none⟩) 4 4] w (Jw (x * n) 12 13 w):=by
 have h:=Cz a (some ⟨b,0,none⟩) da (B7 n) ca 4 w ha hb.big ga (EU h0 h1) (by omega) (by simp [B7]) (by simp [B7]);rw [hx,ET,show (B7 n).length = 4 from rfl] at h;exact h.mono fun _ _ h => h.mono (by omega) (by omega)
theorem O3 (a b:Option Addr) (da db:List Int) (ca cb:Nat) (x y:Int) (w:World) (ha:BV w a da) (hb:BV w b db) (ga:Dm da) (gb:Dm db) (hx:AH da = x) (hy:AH db = y) (l1:12≤da.length) (l2:da.length≤13) (l3:db.length≤13) :
 Calls Tryz.prog 183 #[.slice a da.length ca,.slice b db.length cb] w (Jw (x + y) 12 14 w):=by
 have h:=F7 a b da db ca cb w ha hb ga gb (by omega) (by omega);rw [hx,hy] at h;exact h.mono fun _ _ h => h.mono (by omega) (by omega)
theorem NL (a n:Int) (w:World) (ha:BC a) (hn:Fj n) (hp:BC (a * n)) :
 Calls Tryz.prog 252 #[.agg #[.int .u64 (AV a),.int .u64 (AR a)],.int .u64 n] w fun e w' => e = .returned (.tuple #[.agg #[.int .u64 (AV (a * n)),.int .u64 (AR (a * n))],.bool true])∧Gr w w':=by
 obtain ⟨n1,n2⟩:=hn;go_enter Tryz.func252,Tryz.ntmps252;go_wp2_with fail;refine (Fw a _ ha).mono ?_;rintro e wa ⟨lda,aa,caa,rfl,va,da,la,ma,ra,nna,cpa,ga⟩;obtain ⟨ca,fa,sa⟩:=ga.cells;try simp only [Aa] at ca fa sa
 try simp only [zL] at ca fa sa
 try simp only [zD] at ca fa sa
 try simp only [zS] at ca fa sa
 replace va:=zH va;have za0:w.heap.size < wa.heap.size:=by omega
 have ya0:w.heap.size≤wa.heap.size:=by omega
 have ka0:=fun o => ca (w.heap.size) o (by omega)
 have ja0:=fun o => fa (w.heap.size) o (by omega)
 have za1:w.heap.size + 1 < wa.heap.size:=by omega
 have ka1:=fun o => ca (w.heap.size + 1) o (by omega)
 have ja1:=fun o => fa (w.heap.size + 1) o (by omega)
 go_wp2_with fail;refine (HJ n _ n1 n2).mono ?_;rintro e wb ⟨bb,rfl,llb,hbb,gb⟩;obtain ⟨cb,fb,sb⟩:=gb.cells;try simp only [Aa] at cb fb sb
 try simp only [zL] at cb fb sb
 try simp only [zD] at cb fb sb
 try simp only [zS] at cb fb sb
 have zb0:w.heap.size < wb.heap.size:=by omega
 have yb0:w.heap.size≤wb.heap.size:=by omega
 have kb0:=fun o => cb (w.heap.size) o (by omega)
 have jb0:=fun o => fb (w.heap.size) o (by omega)
 have zb1:w.heap.size + 1 < wb.heap.size:=by omega
 have kb1:=fun o => cb (w.heap.size + 1) o (by omega)
 have jb1:=fun o => fb (w.heap.size + 1) o (by omega)
 go_wp2_with fail;refine (Jr aa bb lda caa a n _ (ra.gr gb) hbb da va.out la ma n1 n2).mono ?_;rintro e wc ⟨ldc,ac,cac,rfl,vc,dc,lc,mc,rc,nnc,cpc,gc⟩;obtain ⟨cc,fc,sc⟩:=gc.cells;try simp only [Aa] at cc fc sc
 try simp only [zL] at cc fc sc
 try simp only [zD] at cc fc sc
 try simp only [zS] at cc fc sc
 replace vc:=zH vc;have zc0:w.heap.size < wc.heap.size:=by omega
 have yc0:w.heap.size≤wc.heap.size:=by omega
 have kc0:=fun o => cc (w.heap.size) o (by omega)
 have jc0:=fun o => fc (w.heap.size) o (by omega)
 have zc1:w.heap.size + 1 < wc.heap.size:=by omega
 have kc1:=fun o => cc (w.heap.size + 1) o (by omega)
 have jc1:=fun o => fc (w.heap.size + 1) o (by omega)
 go_wp2_with fail;refine (Iu ac ldc cac (a * n) _ rc dc (by omega) (by omega) cpc vc.out hp).mono ?_;rintro e wd ⟨rfl,gd⟩;obtain ⟨cd,fd,sd⟩:=gd.cells;try simp only [Aa] at cd fd sd
 try simp only [zL] at cd fd sd
 try simp only [zD] at cd fd sd
 try simp only [zS] at cd fd sd
 have zd0:w.heap.size < wd.heap.size:=by omega
 have yd0:w.heap.size≤wd.heap.size:=by omega
 have kd0:=fun o => cd (w.heap.size) o (by omega)
 have jd0:=fun o => fd (w.heap.size) o (by omega)
 have zd1:w.heap.size + 1 < wd.heap.size:=by omega
 have kd1:=fun o => cd (w.heap.size + 1) o (by omega)
 have jd1:=fun o => fd (w.heap.size + 1) o (by omega)
 go_wp2_with fail;refine bodyPost_ret (v:=.tuple #[.agg #[.int .u64 (AV (a * n)),.int .u64 (AR (a * n))],.bool true]) (by simp (maxDischargeDepth:=8) [results,Tryz.results252,go_sem, *]) rfl ⟨rfl,?_⟩;repeat (first | exact Gr.refl _ | apply Gr.alloc | apply Gr.drew | apply Gr.drewN | (refine Gr.setCell ?_ (by simp) _) | (refine Gr.trans ?_ (by assumption)))
theorem JS (n d q t:Int) (w:World) (hd:BC d) (h0:0 < d) (hq:0≤q) (ht:1≤t) :
 Calls Tryz.prog 250 #[.agg #[.int .u64 (AV n),.int .u64 (AR n),.int .u64 (AV d),.int .u64 (AR d)],.int .i64 q,.int .i64 t] w fun e w' => e = .returned (.bool true)∧Gr w w':=by
 obtain ⟨hn1,hn2,hn3⟩:=LI d hd h0;go_enter Tryz.func250,Tryz.ntmps250;go_wp2;all_goals (go_ret;exact ⟨rfl,(Gr.refl _).alloc _⟩)
theorem Ms (n d q t:Int) (w:World) (hn:BC n) (hd:BC d) (h0:0 < d) (hq:0≤q) (hq':q≤4294967296) (ht:1≤t) (ht':t≤4294967296) (h1:BC (n * t + d * q)) (h2:BC (d * t)) :
 Calls Tryz.prog 218 #[.agg #[.int .u64 (AV n),.int .u64 (AR n),.int .u64 (AV d),.int .u64 (AR d)],.int .i64 q,.int .i64 t] w fun e w' => e = .returned (.tuple #[.agg #[.int .u64 (AV (n * t + d * q)),.int .u64 (AR (n * t + d * q)),.int .u64 (AV (d * t)),.int .u64 (AR (d * t))],.bool true])∧Gr w w':=by
 have wt:Fj t:=⟨by omega,by omega⟩
 have t0:0≤t:=by omega
 have t1:t < 18446744073709551616:=by omega
 have q1:q < 18446744073709551616:=by omega
 go_enter Tryz.func218,Tryz.ntmps218;go_wp2_with fail;refine (JS n d q t _ hd h0 hq ht).mono ?_;rintro e wz ⟨rfl,gz⟩;obtain ⟨cz,fz,sz⟩:=gz.cells;try simp only [Aa] at cz fz sz
 try simp only [zL] at cz fz sz
 try simp only [zD] at cz fz sz
 try simp only [zS] at cz fz sz
 have zz0:w.heap.size < wz.heap.size:=by omega
 have yz0:w.heap.size≤wz.heap.size:=by omega
 have kz0:=fun o => cz (w.heap.size) o (by omega)
 have jz0:=fun o => fz (w.heap.size) o (by omega)
 have zz1:w.heap.size + 1 < wz.heap.size:=by omega
 have kz1:=fun o => cz (w.heap.size + 1) o (by omega)
 have jz1:=fun o => fz (w.heap.size + 1) o (by omega)
 have ewt:IntKind.u64.wrap t = t:=by rw [IntKind.wrap_u64];omega
 have ewq:IntKind.u64.wrap q = q:=by rw [IntKind.wrap_u64];omega
 go_wp2_with fail;go_region_held3 (fun w' => w'.cell? ⟨w.heap.size,0,none⟩ = some (.int .u64 (AV n))∧w'.cell? ⟨w.heap.size,1,none⟩ = some (.int .u64 (AR n))∧w'.cell? ⟨w.heap.size,2,none⟩ = some (.int .u64 (AV d))∧w'.cell? ⟨w.heap.size,3,none⟩ = some (.int .u64 (AR d))) (simp (maxDischargeDepth:=8) [go_sem, *])
  (first
   | (go_at_call 179;(with_reducible refine (Fw n _ hn).mono ?_);rintro e wa ⟨lda,aa,caa,rfl,va,da,la,ma,ra,nna,cpa,ga⟩;obtain ⟨ka,ja,sa⟩:=ga.cells;(try simp only [World.size_drew] at ka ja sa);have kka:=fun o => ka w.heap.size o (by omega))
   | (go_at_call 219;(with_reducible refine (HJ t _ t0 t1).mono ?_);rintro e wb ⟨bb,rfl,llb,hbb,gb⟩;obtain ⟨kb,jb,sb⟩:=gb.cells;have kkb:=fun o => kb w.heap.size o (by omega))
   | (go_at_call 181;(with_reducible refine (Jr aa bb lda caa n t _ (ra.gr gb) hbb da va la ma t0 t1).mono ?_);rintro e wc ⟨ldc,ac,cac,rfl,vc,dc,lc,mc,rc,nnc,cpc,gc⟩;obtain ⟨kc,jc,sc⟩:=gc.cells;have kkc:=fun o => kc w.heap.size o (by omega))
   | (go_at_call 179;(with_reducible refine (Fw d _ hd).mono ?_);rintro e we ⟨lde,ae,cae,rfl,ve,de,le,me,re,nne,cpe,ge⟩;obtain ⟨ke,je,se⟩:=ge.cells;have kke:=fun o => ke w.heap.size o (by omega))
   | (go_at_call 219;(with_reducible refine (HJ q _ hq q1).mono ?_);rintro e wf ⟨bf,rfl,llf,hbf,gf⟩;obtain ⟨kf,jf,sf⟩:=gf.cells;have kkf:=fun o => kf w.heap.size o (by omega))
   | (go_at_call 181;(with_reducible refine (Jr ae bf lde cae d q _ (re.gr gf) hbf de ve le me hq q1).mono ?_);rintro e wg ⟨ldg,ag,cag,rfl,vg,dg,lg,mg,rg,nng,cpg,gg⟩;obtain ⟨kg,jg,sg⟩:=gg.cells;have kkg:=fun o => kg w.heap.size o (by omega))
   | (go_at_call 183;(with_reducible refine (O3 ac ag ldc ldg cac cag (n * t) (d * q) _ (((rc.gr ge).gr gf).gr gg) rg dc dg vc vg lc mc mg).mono ?_);rintro e wh ⟨ldh,ah,cah,rfl,vh,dh,lh,mh,rh,nnh,cph,gh⟩;obtain ⟨kh,jh,sh⟩:=gh.cells;have kkh:=fun o => kh w.heap.size o (by omega))
   | fail)
 clear ewt ewq;have zz0:w.heap.size + 1 < wh.heap.size:=by omega
 have h18:BC (n * t + d * q):=h1;replace h18:=zH h18;have bk:=fun w h => Iu ah ldh cah (n * t + d * q) w h dh (by omega) (by omega) cph vh h18.out
 replace bk:=zH bk;have km:=fun w => NL d t w hd wt h2
 replace km:=zH km;have gz2:=(((((((gz.drew).trans ga).trans gb).trans gc).trans ge).trans gf).trans gg).trans gh;obtain ⟨cz2,fz2,sz2⟩:=gz2.cells;simp only [zL] at cz2 fz2 sz2;have kz2:=fun o => cz2 w.heap.size o (by omega)
 have kz3:=fun o => cz2 (w.heap.size + 1) o (by omega)
 have jz3:=fun o => fz2 (w.heap.size + 1) o (by omega)
 clear ga gb gc ge gf gg gh gz ka kb kc ke kf kg kh ja jb jc je jf jg jh kka kkb kkc kke kkf kkg kkh cz fz kz0 kz1 jz0 jz1 cz2 fz2 hbb hbf ra re rc rg va vc ve vg nna nnc nne nng cpa cpc cpe cpg nnh;go_wp2_with fail;refine (bk.out _ rh).mono ?_;rintro e wi ⟨rfl,gi⟩;obtain ⟨ci,fi,si⟩:=gi.cells;try simp only [Aa] at ci fi si
 try simp only [zL] at ci fi si
 try simp only [zD] at ci fi si
 try simp only [zS] at ci fi si
 have zi0:w.heap.size < wi.heap.size:=by omega
 have yi0:w.heap.size≤wi.heap.size:=by omega
 have ki0:=fun o => ci (w.heap.size) o (by omega)
 have ji0:=fun o => fi (w.heap.size) o (by omega)
 have zi1:w.heap.size + 1 < wi.heap.size:=by omega
 have ki1:=fun o => ci (w.heap.size + 1) o (by omega)
 have ji1:=fun o => fi (w.heap.size + 1) o (by omega)
 go_wp2_with fail;refine (km.out _).mono ?_;rintro e wj ⟨rfl,gj⟩;obtain ⟨cj,fj,sj⟩:=gj.cells;try simp only [Aa] at cj fj sj
 try simp only [zL] at cj fj sj
 try simp only [zD] at cj fj sj
 try simp only [zS] at cj fj sj
 have zj0:w.heap.size < wj.heap.size:=by omega
 have yj0:w.heap.size≤wj.heap.size:=by omega
 have kj0:=fun o => cj (w.heap.size) o (by omega)
 have jj0:=fun o => fj (w.heap.size) o (by omega)
 have zj1:w.heap.size + 1 < wj.heap.size:=by omega
 have kj1:=fun o => cj (w.heap.size + 1) o (by omega)
 have jj1:=fun o => fj (w.heap.size + 1) o (by omega)
 have zj2:wi.heap.size < wj.heap.size:=by omega
 have yj2:wi.heap.size≤wj.heap.size:=by omega
 have kj2:=fun o => cj (wi.heap.size) o (by omega)
 have jj2:=fun o => fj (wi.heap.size) o (by omega)
 go_wp2_with fail;refine bodyPost_ret (v:=.tuple #[.agg #[.int .u64 (AV (n * t + d * q)),.int .u64 (AR (n * t + d * q)),.int .u64 (AV (d * t)),.int .u64 (AR (d * t))],.bool true]) (by simp (maxDischargeDepth:=8) [results,Tryz.results218,go_sem, *]) rfl ⟨rfl,?_⟩;have gw2:Gr w wh:=(((Gr.refl w).alloc _).alloc _).trans gz2;repeat (first | exact Gr.refl _ | apply Gr.alloc | apply Gr.drew | apply Gr.drewN | (refine Gr.setCell ?_ (by simp) _) | (refine Gr.trans ?_ (by assumption)))
end Go.Proofs.YtdfelohjdkcpkaaGreatDoor
