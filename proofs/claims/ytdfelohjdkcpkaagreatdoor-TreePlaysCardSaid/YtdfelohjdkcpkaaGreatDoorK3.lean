/- Numbers as digits of base 65536, lowest first, in plain numbers. Nothing of the program is named here. -/
import Derived.Test.YtdfelohjdkcpkaaGreatDoorK1
import Derived.Test.YtdfelohjdkcpkaaGreatDoorK2
import Derived.Laws.BitsLemmas
import Derived.Deep.AppendLies
import Derived.Outline
namespace Go.Proofs.YtdfelohjdkcpkaaGreatDoor
open Go.RowKit
def valD:List Int→Int
 | [] => 0
 | d :: r => d + 65536 * valD r
def Dig (l:List Int):Prop:=∀ d ∈ l,0≤d∧d < 65536
def P64 (i:Nat):Int:=((65536 ^ i:Nat):Int)
theorem P64_zero:P64 0 = 1:=rfl
theorem P64_succ (i:Nat):P64 (i + 1) = P64 i * 65536:=by unfold P64;rw [Nat.pow_succ];simp
theorem P64_add (i j:Nat):P64 (i + j) = P64 i * P64 j:=by unfold P64;rw [Nat.pow_add];simp
theorem valD_append (a b:List Int):valD (a ++ b) = valD a + P64 a.length * valD b:=by
 induction a with
 | nil => simp [valD,P64_zero]
 | cons d r ih =>
  rw [List.cons_append,valD,valD,ih,List.length_cons,P64_succ,Int.mul_add,Int.mul_comm (P64 r.length) 65536,Int.mul_assoc,Int.add_assoc]
theorem valD_one (d:Int):valD [d] = d:=by simp [valD]
theorem valD_zeros (n:Nat):valD (List.replicate n 0) = 0:=by
 induction n with
 | zero => rfl
 | succ n ih => rw [List.replicate_succ,valD,ih];rfl
theorem Dig.append {a b:List Int} (ha:Dig a) (hb:Dig b):Dig (a ++ b):=fun d h => (List.mem_append.1 h).elim (ha d) (hb d)
theorem Dig.one {d:Int} (h:0≤d∧d < 65536):Dig [d]:=fun x hx => by rw [List.mem_singleton.1 hx];exact h
theorem Dig.take {a:List Int} (h:Dig a) (n:Nat):Dig (a.take n):=fun d hd => h d (List.mem_of_mem_take hd)
theorem Dig.zeros (n:Nat):Dig (List.replicate n 0):=fun d hd => by rw [(List.mem_replicate.1 hd).2];decide
theorem Dig.get {a:List Int} (h:Dig a) {i:Nat} {d:Int} (hd:a[i]? = some d):0≤d∧d < 65536:=h d (List.mem_of_getElem? hd)
theorem valD_bd {a:List Int} (h:Dig a):0≤valD a∧valD a < P64 a.length:=by
 induction a with
 | nil => exact ⟨by decide,by decide⟩
 | cons d r ih =>
  have h1:=h d (List.mem_cons_self ..);have h2:=ih (fun x hx => h x (List.mem_cons_of_mem _ hx));rw [valD,List.length_cons,P64_succ];omega
theorem take_some {a:List Int} {i:Nat} {d:Int} (h:a[i]? = some d):valD (a.take (i + 1)) = valD (a.take i) + P64 i * d:=by
 have hi:i < a.length:=(List.getElem?_eq_some_iff.1 h).1;rw [List.take_add_one,h,Option.toList_some,valD_append,valD_one,List.length_take,Nat.min_eq_left (by omega)]
theorem take_none {a:List Int} {i:Nat} (h:a.length≤i):valD (a.take (i + 1)) = valD (a.take i):=by
 rw [List.take_of_length_le h,List.take_of_length_le (by omega)]
theorem plus_round {v p c x y A B:Int} (h:v + p * c = A + B) :
 (v + p * ((c + x + y) % 65536)) + (p * 65536) * ((c + x + y) / 65536) = (A + p * x) + (B + p * y):=by
 have e:=Int.emod_add_mul_ediv (c + x + y) 65536;have e2:p * (c + x + y) = p * c + p * x + p * y:=by rw [Int.mul_add,Int.mul_add]
 have e3:p * ((c + x + y) % 65536) + (p * 65536) * ((c + x + y) / 65536) = p * (c + x + y):=by
  rw [Int.mul_assoc,← Int.mul_add,e]
 omega
theorem mul_round {v p c x y A:Int} (h:v + p * c = x * A) :
 (v + p * ((x * y + c) % 65536)) + (p * 65536) * ((x * y + c) / 65536) = x * (A + p * y):=by
 have e:=Int.emod_add_mul_ediv (x * y + c) 65536;have e3:p * ((x * y + c) % 65536) + (p * 65536) * ((x * y + c) / 65536) = p * (x * y + c):=by
  rw [Int.mul_assoc,← Int.mul_add,e]
 have e4:p * (x * y + c) = x * (p * y) + p * c:=by rw [Int.mul_add,← Int.mul_assoc,← Int.mul_assoc,Int.mul_comm p x]
 rw [Int.mul_add];omega
def digs4 (n:Int):List Int:=[n % 65536,n / 65536 % 65536,n / 4294967296 % 65536,n / 281474976710656]
theorem digs4_val (n:Int):valD (digs4 n) = n:=by simp only [digs4,valD];omega
theorem digs4_dig {n:Int} (h0:0≤n) (h1:n < 18446744073709551616):Dig (digs4 n):=by
 intro d hd;simp only [digs4,List.mem_cons,List.not_mem_nil,or_false] at hd;omega
abbrev digC (d:Int):List Value:=[.int .u32 d]
theorem digC_len (d:Int):(digC d).length = 1:=rfl
theorem digC_one (d:Int):∀ u ∈ digC d,u.oneCell' = true:=by intro u hu;simp at hu;subst hu;rfl
def BigAt (w:World) (a:Option Addr) (l:List Int):Prop:=RecsAt 1 digC w a l
theorem BigAt.gr {w w':World} {a:Option Addr} {l:List Int} (h:BigAt w a l) (g:Gr w w'):BigAt w' a l:=by
 intro i s hi;obtain ⟨b,off,ha,hb,hc⟩:=h i s hi;exact ⟨b,off,ha,Nat.lt_of_lt_of_le hb g.size,fun j u hu => by rw [g.cells.1 _ _ hb];exact hc j u hu⟩
theorem BigAt.get {w:World} {a:Option Addr} {l:List Int} (h:BigAt w a l) {i:Nat} {d:Int} (hd:l[i]? = some d):∃ b off,a = some ⟨b,off,none⟩∧b < w.heap.size∧w.cell? ⟨b,off + i,none⟩ = some (.int .u32 d):=by
 obtain ⟨b,off,ha,hb,hc⟩:=h i d hd;exact ⟨b,off,ha,hb,by simpa using hc 0 _ rfl⟩
def Cap (n c:Nat):Prop:=n≤c∧c≤maxLen
theorem own_cap {w:World} {base:Nat} {e:TypeId} {size:Nat} {v:Value} {n:Nat} {xs:List Value} {a:Option Addr} {m c:Nat} (h:w.ownsRow base e size v n xs) (hv:v = .slice a m c):Cap n c:=by
 obtain ⟨_,⟨h1,h2⟩ | ⟨g,cap,cur,h1,_,_,h2,h3,_⟩⟩:=h
 ·rw [hv] at h1;cases h1;exact ⟨by omega,Nat.zero_le _⟩
 ·rw [hv] at h1;cases h1;exact ⟨h2,h3⟩
def BigP (x:Int) (n m:Nat) (w:World) (e:Ending) (w':World):Prop :=
 ∃ (ds:List Int) (a:Option Addr) (c:Nat),e = .returned (.slice a ds.length c)∧valD ds = x∧Dig ds∧n≤ds.length∧ds.length≤m∧BigAt w' a ds∧(a = none→c = 0)∧Cap ds.length c∧Gr w w'
end Go.Proofs.YtdfelohjdkcpkaaGreatDoor
namespace Go.Proofs.YtdfelohjdkcpkaaGreatDoor
open Go.RowKit
theorem Tryz.infoU32:(Tryz.prog.info? 211).map (fun i => (i.zero,i.size,i.bytes)) = some (some (.int .u32 0),1,4):=by kernel_rfl
theorem and_low16 (z:Int) (h0:0≤z) (h1:z < 18446744073709551616):bits .and .u64 z 65535 = z % 65536:=by go_bits2
theorem and_low16_32 (z:Int) (h0:0≤z) (h1:z < 4294967296):bits .and .u32 z 65535 = z % 65536:=by
 have h16:(BitVec.ofInt 32 65535).toNat = 2 ^ 16 - 1:=by decide
 have key:(BitVec.ofInt 32 z &&& BitVec.ofInt 32 65535).toNat = (z % ((2 ^ 32:Nat):Int)).toNat % 2 ^ 16:=by
  rw [BitVec.toNat_and,BitVec.toNat_ofInt,h16,Nat.and_two_pow_sub_one_eq_mod]
 show IntKind.u32.wrap ((BitVec.ofInt 32 z &&& BitVec.ofInt 32 65535).toNat:Nat) = z % 65536;rw [key,IntKind.wrap_u32];omega
set_option maxHeartbeats 800000 in
theorem bof_any (n:Int) (w:World) (h0:0≤n) (h1:n < 18446744073709551616) :
 Calls Tryz.prog 219 #[.int .u64 n] w fun e w' => e = .returned (.slice (some ⟨w.heap.size,0,none⟩) (digs4 n).length 4)∧BigAt w' (some ⟨w.heap.size,0,none⟩) (digs4 n)∧Gr w w':=by
 have e0:=and_low16 n h0 h1;have e1:=and_low16 (n / 65536) (by omega) (by omega);have e2:=and_low16 (n / 4294967296) (by omega) (by omega);go_enter Tryz.func219,Tryz.ntmps219;go_wp2_with fail;go_ret;refine ⟨rfl,?_,(Gr.refl _).alloc _⟩;exact recs_alloc digC_len w (digs4 n) _ _ rfl
def PlusInv (da db ds:List Int) (i:Nat) (c:Int):Prop :=
 ds.length = i∧Dig ds∧0≤c∧c≤1∧valD ds + P64 i * c = valD (da.take i) + valD (db.take i)∧i≤max da.length db.length + 1∧(i = max da.length db.length + 1→c = 0)
theorem plusInv_step {da db ds:List Int} {i:Nat} {c x y:Int} (h:PlusInv da db ds i c) (hx:da[i]? = some x ∨ (da.length≤i∧x = 0)) (hy:db[i]? = some y ∨ (db.length≤i∧y = 0)) (bx:0≤x∧x < 65536) (by':0≤y∧y < 65536) (hlt:i < max da.length db.length ∨ 0 < c) :
 PlusInv da db (ds ++ [(c + x + y) % 65536]) (i + 1) ((c + x + y) / 65536):=by
 obtain ⟨h1,h2,h3,h4,h5,h6,h7⟩:=h;have ex:valD (da.take (i + 1)) = valD (da.take i) + P64 i * x:=by
  rcases hx with hx | ⟨hx,rfl⟩
  ·exact take_some hx
  ·rw [take_none hx];simp
 have ey:valD (db.take (i + 1)) = valD (db.take i) + P64 i * y:=by
  rcases hy with hy | ⟨hy,rfl⟩
  ·exact take_some hy
  ·rw [take_none hy];simp
 refine ⟨by simp [h1],h2.append (Dig.one ⟨by omega,by omega⟩),by omega,by omega,?_,by omega,?_⟩
 ·rw [valD_append,valD_one,h1,ex,ey,P64_succ];exact plus_round h5
 ·intro hi;have hx0:x = 0:=by
   rcases hx with hx | ⟨_,hx⟩
   ·have:=(List.getElem?_eq_some_iff.1 hx).1;omega
   ·exact hx
  have hy0:y = 0:=by
   rcases hy with hy | ⟨_,hy⟩
   ·have:=(List.getElem?_eq_some_iff.1 hy).1;omega
   ·exact hy
  omega
set_option maxHeartbeats 1600000 in
theorem bplus_any (a b:Option Addr) (da db:List Int) (ca cb:Nat) (w:World) (ha:BigAt w a da) (hb:BigAt w b db) (ga:Dig da) (gb:Dig db) (la:da.length≤1000) (lb:db.length≤1000) :
 Calls Tryz.prog 183 #[.slice a da.length ca,.slice b db.length cb] w (BigP (valD da + valD db) (max da.length db.length) (max da.length db.length + 1) w):=by
 obtain ⟨i109,hi,hz0,hz1,hz2⟩:=info_parts Tryz.infoU32;go_enter Tryz.func183,Tryz.ntmps183;go_wp2_with fail;go_loopw [5,6,7] (fun v cv iv wr => ∃ (i:Nat) (c:Int) (ds:List Int),PlusInv da db ds i c∧iv = .int .i64 i∧cv = .int .u32 c∧wr.ownsRow w.heap.size 211 1 v ds.length (ds.flatMap digC)∧Gr w wr) (fun _ _ iv _ => max da.length db.length + 1 - (intOf iv).toNat);case atStart => exact ⟨0,0,[],⟨rfl,(fun _ h => by cases h),by decide,by decide,by simp [valD],by omega,by omega⟩,rfl,rfl,owns_empty _ _ _ _ rfl _ (Nat.le_refl _),(Gr.refl _).alloc _⟩
 case round =>
  obtain ⟨i,c,ds,hinv,rfl,rfl,hown,hg⟩:=hrel;obtain ⟨hi1,hi2,hi3,hi4,hi5,hi6,hi7⟩:=(show PlusInv da db ds i c from hinv)
  have n1:ds.length + ([(0:Int)]:List Int).length≤maxLen:=by unfold maxLen;simp;omega
  have n2:(ds.length + ([(0:Int)]:List Int).length) * 4≤140737488355328:=by simp;omega
  have n3:w.heap.size≤wr.heap.size:=hg.size;replace hi5:=Lib.hid hi5;replace hi1:=Lib.hid hi1;by_cases hxa:i < da.length
  ·by_cases hxb:i < db.length
   ·obtain ⟨x,hx⟩:=get_some da i hxa;obtain ⟨ba,oa,rfl,hba,cx⟩:=(ha.gr hg).get hx;have bx:=ga.get hx;obtain ⟨bx1,bx2⟩:=bx;obtain ⟨y,hy⟩:=get_some db i hxb;obtain ⟨bb,ob,rfl,hbb,cy⟩:=(hb.gr hg).get hy;have by1:=gb.get hy;obtain ⟨by2,by3⟩:=by1;have step:=plusInv_step hinv (.inl hx) (.inl hy) ⟨bx1,bx2⟩ ⟨by2,by3⟩ (.inl (by omega));have em:=and_low16_32 (c + x + y) (by omega) (by omega);replace step:=Lib.hid step;clear hinv;go_wp2_with (at_builtin;refine wpList_append_recs (k:=1) (enc:=digC) rfl _ _ 281 rfl w.heap.size 211 i109 _ 4 Tryz.underlying281 hi hz0 hz1 hz2 rfl (by decide) digC_len digC_one _ ds rfl (hown.alloc _) (some ⟨wr.heap.size,0,none⟩) 1 [(c + x + y) % 65536] rfl (recs_alloc digC_len wr [(c + x + y) % 65536] _ _ rfl) (fun h => by cases h) n1 n2 (le_alloc n3 _) ?_;intro v1 w1 hown1 hgr1);have hg1:Gr w w1:=(hg.alloc _).grown hgr1 (own_block hown);go_wp2_with fail;go_roundw;case rel => exact ⟨i + 1,_,_,step.out,by go_num,rfl,hown1,hg1⟩
    case measure => simp [intOf];omega
   ·obtain ⟨x,hx⟩:=get_some da i hxa;obtain ⟨ba,oa,rfl,hba,cx⟩:=(ha.gr hg).get hx;have bx:=ga.get hx;obtain ⟨bx1,bx2⟩:=bx;have step:=plusInv_step hinv (.inl hx) (.inr ⟨by omega,rfl⟩) ⟨bx1,bx2⟩ (by decide) (.inl (by omega));simp only [Int.add_zero] at step;have em:=and_low16_32 (c + x) (by omega) (by omega);replace step:=Lib.hid step;clear hinv;go_wp2_with (at_builtin;refine wpList_append_recs (k:=1) (enc:=digC) rfl _ _ 281 rfl w.heap.size 211 i109 _ 4 Tryz.underlying281 hi hz0 hz1 hz2 rfl (by decide) digC_len digC_one _ ds rfl (hown.alloc _) (some ⟨wr.heap.size,0,none⟩) 1 [(c + x) % 65536] rfl (recs_alloc digC_len wr [(c + x) % 65536] _ _ rfl) (fun h => by cases h) n1 n2 (le_alloc n3 _) ?_;intro v1 w1 hown1 hgr1);have hg1:Gr w w1:=(hg.alloc _).grown hgr1 (own_block hown);go_wp2_with fail;go_roundw;case rel => exact ⟨i + 1,_,_,step.out,by go_num,rfl,hown1,hg1⟩
    case measure => simp [intOf];omega
  ·by_cases hxb:i < db.length
   ·obtain ⟨y,hy⟩:=get_some db i hxb;obtain ⟨bb,ob,rfl,hbb,cy⟩:=(hb.gr hg).get hy;have by1:=gb.get hy;obtain ⟨by2,by3⟩:=by1;have step:=plusInv_step hinv (.inr ⟨by omega,rfl⟩) (.inl hy) (by decide) ⟨by2,by3⟩ (.inl (by omega));simp only [Int.add_zero] at step;have em:=and_low16_32 (c + y) (by omega) (by omega);replace step:=Lib.hid step;clear hinv;go_wp2_with (at_builtin;refine wpList_append_recs (k:=1) (enc:=digC) rfl _ _ 281 rfl w.heap.size 211 i109 _ 4 Tryz.underlying281 hi hz0 hz1 hz2 rfl (by decide) digC_len digC_one _ ds rfl (hown.alloc _) (some ⟨wr.heap.size,0,none⟩) 1 [(c + y) % 65536] rfl (recs_alloc digC_len wr [(c + y) % 65536] _ _ rfl) (fun h => by cases h) n1 n2 (le_alloc n3 _) ?_;intro v1 w1 hown1 hgr1);have hg1:Gr w w1:=(hg.alloc _).grown hgr1 (own_block hown);go_wp2_with fail;go_roundw;case rel => exact ⟨i + 1,_,_,step.out,by go_num,rfl,hown1,hg1⟩
    case measure => simp [intOf];omega
   ·by_cases hc0:0 < c
    ·have step:=plusInv_step hinv (.inr ⟨by omega,rfl⟩) (.inr ⟨by omega,rfl⟩) (by decide) (by decide) (.inr (by omega));simp only [Int.add_zero] at step;have em:=and_low16_32 (c) (by omega) (by omega);replace step:=Lib.hid step;clear hinv;go_wp2_with (at_builtin;refine wpList_append_recs (k:=1) (enc:=digC) rfl _ _ 281 rfl w.heap.size 211 i109 _ 4 Tryz.underlying281 hi hz0 hz1 hz2 rfl (by decide) digC_len digC_one _ ds rfl (hown.alloc _) (some ⟨wr.heap.size,0,none⟩) 1 [(c) % 65536] rfl (recs_alloc digC_len wr [(c) % 65536] _ _ rfl) (fun h => by cases h) n1 n2 (le_alloc n3 _) ?_;intro v1 w1 hown1 hgr1);have hg1:Gr w w1:=(hg.alloc _).grown hgr1 (own_block hown);go_wp2_with fail;go_roundw;case rel => exact ⟨i + 1,_,_,step.out,by go_num,rfl,hown1,hg1⟩
     case measure => simp [intOf];omega
    ·obtain rfl:c = 0:=by omega
     have hfin:valD ds = valD da + valD db:=by
      have:=hi5.out;rw [List.take_of_length_le (by omega),List.take_of_length_le (by omega)] at this;omega
     replace hfin:=Lib.hid hfin;obtain ⟨a',c',hv,hr,hn,_⟩:=recs_of_owns digC_len hown;have hcap:=own_cap hown hv;go_wp2_with fail;go_ret;exact ⟨ds,a',c',rfl,hfin.out,hi2,by have:=hi1.out;omega,by have:=hi1.out;omega,hr,hn,hcap,hg⟩
end Go.Proofs.YtdfelohjdkcpkaaGreatDoor
namespace Go.Proofs.YtdfelohjdkcpkaaGreatDoor
open Go.RowKit
theorem made_digs (n:Nat):(madeCells (Value.int .u32 0).cells (n * 1)).toList = (List.replicate n (0:Int)).flatMap digC:=by
 have e:(List.replicate n (0:Int)).flatMap digC = List.replicate n (.int .u32 0):=by
  induction n with
  | zero => rfl
  | succ n ih => rw [List.replicate_succ,List.flatMap_cons,ih,List.replicate_succ];rfl
 rw [e];simp [madeCells,Value.cells,Nat.mod_one,List.map_const']
def RowInv (da rs:List Int) (i j:Nat) (x c:Int):Prop :=
 rs.length = i + j∧Dig rs∧0≤c∧c < 65536∧valD rs + P64 (i + j) * c = x * (P64 i * valD (da.take j))
theorem rowInv_start (da:List Int) (i:Nat) (x:Int):RowInv da (List.replicate i 0) i 0 x 0 :=
 ⟨by simp,Dig.zeros i,by decide,by decide,by rw [valD_zeros];simp [valD]⟩
theorem rowInv_step {da rs:List Int} {i j:Nat} {x c y:Int} (h:RowInv da rs i j x c) (hy:da[j]? = some y) (bx:0≤x∧x < 65536) (by':0≤y∧y < 65536) :
 RowInv da (rs ++ [(x * y + c) % 65536]) i (j + 1) x ((x * y + c) / 65536)∧0≤x * y∧x * y≤4294836225:=by
 obtain ⟨h1,h2,h3,h4,h5⟩:=h;have m:=mul_bd bx.1 (show x≤65535 by omega) by'.1 (show y≤65535 by omega)
 refine ⟨⟨by simp [h1];omega,h2.append (Dig.one ⟨by omega,by omega⟩),by omega,by omega,?_⟩,m.1,by omega⟩;rw [valD_append,valD_one,h1,take_some hy,show i + (j + 1) = i + j + 1 from rfl,P64_succ,Int.mul_add (P64 i),← Int.mul_assoc (P64 i),← P64_add];exact mul_round h5
theorem rowInv_end {da rs:List Int} {i:Nat} {x c:Int} (h:RowInv da rs i da.length x c):valD (rs ++ [c]) = x * (P64 i * valD da)∧Dig (rs ++ [c])∧(rs ++ [c]).length = i + da.length + 1:=by
 obtain ⟨h1,h2,h3,h4,h5⟩:=h;rw [List.take_length] at h5;refine ⟨?_,h2.append (Dig.one ⟨h3,h4⟩),by simp [h1]⟩;rw [valD_append,valD_one,h1];exact h5
def TimesInv (da db ds:List Int) (k:Nat):Prop :=
 valD ds = valD da * valD (db.take k)∧Dig ds∧ds.length≤da.length + k + 1∧(1≤k→da.length + k≤ds.length)
theorem timesInv_step {da db ds os:List Int} {k:Nat} {x:Int} (h:TimesInv da db ds k) (hx:db[k]? = some x) (hv:valD os = valD ds + x * (P64 k * valD da)) (hd:Dig os)
 (h1:max ds.length (k + da.length + 1)≤os.length) (h2:os.length≤max ds.length (k + da.length + 1) + 1):TimesInv da db os (k + 1):=by
 obtain ⟨g1,g2,g3,g4⟩:=h;refine ⟨?_,hd,by omega,by omega⟩;rw [hv,g1,take_some hx,Int.mul_add];congr 1;rw [Int.mul_comm x,Int.mul_comm (P64 k) (valD da),Int.mul_assoc]
set_option maxHeartbeats 1600000 in
theorem btimes_any (a b:Option Addr) (da db:List Int) (ca cb:Nat) (w:World) (ha:BigAt w a da) (hb:BigAt w b db) (ga:Dig da) (gb:Dig db) (la:da.length≤100) (lb:db.length≤100) (lb1:1≤db.length) :
 Calls Tryz.prog 181 #[.slice a da.length ca,.slice b db.length cb] w (BigP (valD da * valD db) (da.length + db.length) (da.length + db.length + 1) w):=by
 obtain ⟨i109,hi,hz0,hz1,hz2⟩:=info_parts Tryz.infoU32;go_enter Tryz.func181,Tryz.ntmps181;go_wp2_with fail;go_loopw [16,5] (fun iv v wr => ∃ (k:Nat) (ds:List Int) (a':Option Addr) (c':Nat),k≤db.length∧TimesInv da db ds k∧iv = .int .i64 k∧v = .slice a' ds.length c'∧BigAt wr a' ds∧(a' = none→c' = 0)∧Cap ds.length c'∧Gr w wr) (fun iv _ _ => db.length - (intOf iv).toNat);case atStart => exact ⟨0,[],some ⟨w.heap.size,0,none⟩,0,Nat.zero_le _,⟨by simp [valD],(fun _ h => by cases h),by simp,by omega⟩,rfl,rfl,(fun i s h => by simp at h),(fun h => by cases h),⟨Nat.le_refl _,Nat.zero_le _⟩,(Gr.refl _).alloc _⟩
 case round =>
  obtain ⟨k,ds,a',c',hk,hinv,rfl,rfl,hds,hn,hcap,hg⟩:=hrel;obtain ⟨t1,t2,t3,t4⟩:=(show TimesInv da db ds k from hinv)
  clear t1;by_cases hlt:k < db.length
  ·obtain ⟨x,hx⟩:=get_some db k hlt;obtain ⟨bb,ob,rfl,hbb,cx⟩:=(hb.gr hg).get hx;obtain ⟨bx1,bx2⟩:=gb.get hx;have k63:k≤maxLen:=by unfold maxLen;omega
   have kby:i109.bytes * k≤281474976710656:=by
    have:i109.bytes = 4:=by assumption
    rw [this];omega
   go_wp2_with (at_make;refine wpList_make_full wr rfl _ _ 281 rfl wr.heap.size 211 i109 _ 1 Tryz.underlying281 hi hz0 hz1 .i64 .i64 _ _ k rfl rfl rfl rfl kby k63 (Nat.le_refl _) ?_;intro w1 hown1 hgr1);have gw1:Gr wr w1:=(Gr.refl wr).grown hgr1 (fun k h => by cases h);clear hgr1;rw [made_digs] at hown1;replace hinv:=Lib.hid hinv;obtain ⟨wo,rfl⟩:∃ wo:World,wo = wr:=⟨_,rfl⟩
   go_loopw [8,9,25] (fun rv cv jv wx => ∃ (j:Nat) (c:Int) (rs:List Int),RowInv da rs k j x c∧j≤da.length∧jv = .int .i64 j∧cv = .int .u32 c∧wx.ownsRow wo.heap.size 211 1 rv rs.length (rs.flatMap digC)∧Gr wo wx) (fun _ _ jv _ => da.length - (intOf jv).toNat);case atStart =>
    refine ⟨0,0,List.replicate k 0,rowInv_start da k x,Nat.zero_le _,rfl,rfl,?_,gw1⟩;rw [List.length_replicate];exact hown1
   case round =>
    obtain ⟨j,c,rs,hri,hj,rfl,rfl,hown,hgx⟩:=hrel;obtain ⟨r1,r2,r3,r4,r5⟩:=(show RowInv da rs k j x c from hri)
    have n1:rs.length + ([(0:Int)]:List Int).length≤maxLen:=by unfold maxLen;simp;omega
    have n2:(rs.length + ([(0:Int)]:List Int).length) * 4≤140737488355328:=by simp;omega
    have n4:wo.heap.size≤wr.heap.size:=hgx.size;have gwx:Gr w wr:=hg.trans hgx;clear r5;replace r1:=Lib.hid r1;by_cases hjl:j < da.length
    ·obtain ⟨y,hy⟩:=get_some da j hjl;obtain ⟨ba,oa,rfl,hba,cy⟩:=(ha.gr gwx).get hy;obtain ⟨by1,by2⟩:=ga.get hy;obtain ⟨step,m1,m2⟩:=rowInv_step hri hy ⟨bx1,bx2⟩ ⟨by1,by2⟩;have em:=and_low16_32 (x * y + c) (by omega) (by omega);replace step:=Lib.hid step;clear hri;go_wp2_with (at_builtin;refine wpList_append_recs (k:=1) (enc:=digC) rfl _ _ 281 rfl wo.heap.size 211 i109 _ 4 Tryz.underlying281 hi hz0 hz1 hz2 rfl (by decide) digC_len digC_one _ rs rfl (hown.alloc _) (some ⟨wr.heap.size,0,none⟩) 1 [(x * y + c) % 65536] rfl (recs_alloc digC_len wr [(x * y + c) % 65536] _ _ rfl) (fun h => by cases h) n1 n2 (le_alloc n4 _) ?_;intro v2 w2 hown2 hgr2);have hg2:Gr wo w2:=(hgx.alloc _).grown hgr2 (own_block hown);go_wp2_with fail;go_roundw;case rel => exact ⟨j + 1,_,_,step.out,by omega,by go_num,rfl,hown2,hg2⟩
     case measure => simp [intOf];omega
    ·obtain rfl:j = da.length:=by omega
     obtain ⟨v1,v2,v3⟩:=rowInv_end hri;have hz:w.heap.size≤wo.heap.size:=hg.size;clear hri;replace v1:=Lib.hid v1;replace v3:=Lib.hid v3;go_wp2_with (at_builtin;refine wpList_append_recs (k:=1) (enc:=digC) rfl _ _ 281 rfl wo.heap.size 211 i109 _ 4 Tryz.underlying281 hi hz0 hz1 hz2 rfl (by decide) digC_len digC_one _ rs rfl (hown.alloc _) (some ⟨wr.heap.size,0,none⟩) 1 [c] rfl (recs_alloc digC_len wr [c] _ _ rfl) (fun h => by cases h) n1 n2 (le_alloc n4 _) ?_;intro v5 w2 hown2 hgr2);have hg2:Gr wo w2:=(hgx.alloc _).grown hgr2 (own_block hown);obtain ⟨a2,c2,hv5,hr2,hn2,_⟩:=recs_of_owns digC_len hown2;rw [hv5];have hb:=bplus_any a' a2 ds (rs ++ [c]) c' c2 w2 (hds.gr hg2) hr2 t2 v2 (by omega) (by rw [v3.out];omega);refine (hb).mono ?_;rintro e w3 ⟨os,a3,c3,rfl,o1,o2,o3,o4,o5,o6,o8,o7⟩;have hinv':=timesInv_step hinv.out hx (by rw [o1,v1.out]) o2 (by rw [v3.out] at o3;omega) (by rw [v3.out] at o4;omega);have hgz:Gr w w3:=(hg.trans hg2).trans o7;clear hinv o1 o2 o3 o4;go_wp2_with fail;go_roundw;case rel => exact ⟨k + 1,os,a3,c3,by omega,hinv',by go_num,rfl,o5,o6,o8,hgz⟩
     case measure => simp [intOf];omega
  ·obtain rfl:k = db.length:=by omega
   obtain ⟨t1,_,_,_⟩:=hinv;rw [List.take_length] at t1;replace t1:=Lib.hid t1;go_wp2_with fail;go_ret;exact ⟨ds,a',c',rfl,t1.out,t2,by omega,by omega,hds,hn,hcap,hg⟩
end Go.Proofs.YtdfelohjdkcpkaaGreatDoor
namespace Go.Proofs.YtdfelohjdkcpkaaGreatDoor
open Go.RowKit
def dig (ds:List Int) (i:Nat):Int:=ds.getD i 0
theorem dig_some {ds:List Int} {i:Nat} {x:Int} (h:ds[i]? = some x):dig ds i = x:=by unfold dig;rw [List.getD_eq_getElem?_getD,h];rfl
theorem dig_none {ds:List Int} {i:Nat} (h:ds.length≤i):dig ds i = 0:=by unfold dig;rw [List.getD_eq_getElem?_getD,List.getElem?_eq_none h];rfl
theorem dig_bd {ds:List Int} (h:Dig ds) (i:Nat):0≤dig ds i∧dig ds i < 65536:=by
 by_cases hi:i < ds.length
 ·obtain ⟨x,hx⟩:=get_some ds i hi;rw [dig_some hx];exact h.get hx
 ·rw [dig_none (by omega)];decide
theorem take_dig (ds:List Int) (i:Nat):valD (ds.take (i + 1)) = valD (ds.take i) + P64 i * dig ds i:=by
 by_cases hi:i < ds.length
 ·obtain ⟨x,hx⟩:=get_some ds i hi;rw [dig_some hx];exact take_some hx
 ·rw [dig_none (by omega),take_none (by omega)];simp
theorem take_bd {ds:List Int} (h:Dig ds) (i:Nat):0≤valD (ds.take i)∧valD (ds.take i) < P64 i:=by
 have h1:=valD_bd (h.take i);refine ⟨h1.1,Int.lt_of_lt_of_le h1.2 ?_⟩;rw [List.length_take];unfold P64;have:=Nat.pow_le_pow_right (show 0 < 65536 by decide) (Nat.min_le_left i ds.length);omega
theorem bat_any (a:Option Addr) (da:List Int) (ca i:Nat) (w:World) (ha:BigAt w a da) :
 Calls Tryz.prog 220 #[.slice a da.length ca,.int .i64 i] w fun e w' => e = .returned (.int .u32 (dig da i))∧w = w':=by
 by_cases hi:i < da.length
 ·obtain ⟨x,hx⟩:=get_some da i hi;obtain ⟨ba,oa,rfl,hba,cx⟩:=ha.get hx;rw [dig_some hx];go_enter Tryz.func220,Tryz.ntmps220;go_wp2_with fail;go_ret;exact ⟨rfl,rfl⟩
 ·rw [dig_none (by omega)];go_enter Tryz.func220,Tryz.ntmps220;go_wp2_with fail;go_ret;exact ⟨rfl,rfl⟩
theorem less_digs {P A B x y:Int} (hA:0≤A∧A < P) (hB:0≤B∧B < P) (h:x < y):A + P * x < B + P * y:=by
 have h1:P * (x + 1)≤P * y:=Int.mul_le_mul_of_nonneg_left (by omega) (by omega);rw [Int.mul_add] at h1;omega
theorem less_step {da db:List Int} (ga:Dig da) (gb:Dig db) {i:Nat} (h:valD da + valD (db.take (i + 1)) = valD db + valD (da.take (i + 1))) (hne:dig da i ≠ dig db i) :
 (decide (valD da < valD db)) = decide (dig da i < dig db i):=by
 rw [take_dig,take_dig] at h;have h1:=take_bd ga i;have h2:=take_bd gb i;rcases Int.lt_or_gt_of_ne hne with hl | hl
 ·have:=less_digs h1 h2 hl;rw [decide_eq_true hl,decide_eq_true (by omega)]
 ·have:=less_digs h2 h1 hl;rw [decide_eq_false (by omega),decide_eq_false (by omega)]
set_option maxHeartbeats 800000 in
theorem bless_any (a b:Option Addr) (da db:List Int) (ca cb:Nat) (w:World) (ha:BigAt w a da) (hb:BigAt w b db) (ga:Dig da) (gb:Dig db) (la:da.length≤1000) (lb:db.length≤1000) :
 Calls Tryz.prog 180 #[.slice a da.length ca,.slice b db.length cb] w fun e w' => e = .returned (.bool (decide (valD da < valD db)))∧w = w':=by
 go_enter Tryz.func180,Tryz.ntmps180;go_wp2_with fail;all_goals
  go_loopw [5] (fun iv wr => ∃ i:Int,-1≤i∧i < (max da.length db.length:Nat)∧iv = .int .i64 i∧valD da + valD (db.take (i + 1).toNat) = valD db + valD (da.take (i + 1).toNat)∧wr = w) (fun iv _ => (intOf iv + 1).toNat);case atStart =>
   refine ⟨(max da.length db.length:Nat) - 1,by omega,by omega,?_,?_,rfl⟩
   ·go_num
   ·rw [List.take_of_length_le (by omega),List.take_of_length_le (by omega)];omega
  case round =>
   obtain ⟨i,h1,h2,rfl,he,rfl⟩:=hrel;by_cases h0:0≤i
   ·obtain ⟨n,rfl⟩:=Int.eq_ofNat_of_zero_le h0;have hn:n≤1000:=by omega
    rw [show ((n:Int) + 1).toNat = n + 1 by omega] at he;by_cases hne:dig da n = dig db n
    ·have he':valD da + valD (db.take n) = valD db + valD (da.take n):=by
      rw [take_dig,take_dig,hne] at he;omega
     clear he;replace he':=Lib.hid he';go_wp2_with fail;refine (bat_any a da ca n _ ha).mono ?_;rintro e wa ⟨rfl,rfl⟩;go_wp2_with fail;refine (bat_any b db cb n _ hb).mono ?_;rintro e wb ⟨rfl,rfl⟩;go_wp2_with fail;go_roundw;case rel => exact ⟨(n:Int) - 1,by omega,by omega,by go_num,by rw [show ((n:Int) - 1 + 1).toNat = n by omega];exact he'.out,trivial⟩
     case measure => simp [intOf]
    ·have hdec:=less_step ga gb he hne;clear he;replace hdec:=Lib.hid hdec;go_wp2_with fail;refine (bat_any a da ca n _ ha).mono ?_;rintro e wa ⟨rfl,rfl⟩;go_wp2_with fail;refine (bat_any b db cb n _ hb).mono ?_;rintro e wb ⟨rfl,rfl⟩;go_wp2_with fail;go_wp2_with fail;refine (bat_any a da ca n _ ha).mono ?_;rintro e wc ⟨rfl,rfl⟩;go_wp2_with fail;refine (bat_any b db cb n _ hb).mono ?_;rintro e wd ⟨rfl,rfl⟩;go_wp2_with fail;go_ret;exact ⟨by rw [hdec.out];rfl,rfl⟩
   ·obtain rfl:i = -1:=by omega
    have hr:¬ valD da < valD db:=by
     simp [valD] at he;omega
    have hdec:=decide_eq_false hr;clear he hr;replace hdec:=Lib.hid hdec;go_wp2_with fail;go_ret;exact ⟨by rw [hdec.out];rfl,rfl⟩
end Go.Proofs.YtdfelohjdkcpkaaGreatDoor
namespace Go.Proofs.YtdfelohjdkcpkaaGreatDoor
open Go.RowKit
theorem or_join (i:Nat) (x y:Int) (hx0:0≤x) (hx:x % 2 ^ i = 0) (hx1:x < 18446744073709551616) (hy0:0≤y) (hy:y < 2 ^ i) (hi:y < 18446744073709551616):bits .or .u64 y x = y + x:=by
 have:=bits_join .u64 64 (by decide) (fun n h0 h1 => by rw [IntKind.wrap_u64];omega) i x y hx0 hx hx1 hy0 hy hi;rw [Int.add_comm,← this];show IntKind.u64.wrap _ = IntKind.u64.wrap _;rw [BitVec.or_comm]
theorem fits_val (a b c d:Int) (ha:0≤a∧a < 65536) (hb:0≤b∧b < 65536) (hc:0≤c∧c < 65536) (hd:0≤d∧d < 65536) :
 bits .or .u64 (bits .or .u64 (bits .or .u64 (IntKind.u64.wrap (dig [a,b,c,d] 0)) (IntKind.u64.wrap (IntKind.u64.wrap (dig [a,b,c,d] 1) * 65536))) (IntKind.u64.wrap (IntKind.u64.wrap (dig [a,b,c,d] 2) * 4294967296))) (IntKind.u64.wrap (IntKind.u64.wrap (dig [a,b,c,d] 3) * 281474976710656)) = valD [a,b,c,d]:=by
 have e0:dig [a,b,c,d] 0 = a:=rfl;have e1:dig [a,b,c,d] 1 = b:=rfl;have e2:dig [a,b,c,d] 2 = c:=rfl;have e3:dig [a,b,c,d] 3 = d:=rfl;have w0:IntKind.u64.wrap a = a:=by rw [IntKind.wrap_u64];omega
 have w1:IntKind.u64.wrap (IntKind.u64.wrap b * 65536) = b * 65536:=by rw [IntKind.wrap_u64,IntKind.wrap_u64];omega
 have w2:IntKind.u64.wrap (IntKind.u64.wrap c * 4294967296) = c * 4294967296:=by rw [IntKind.wrap_u64,IntKind.wrap_u64];omega
 have w3:IntKind.u64.wrap (IntKind.u64.wrap d * 281474976710656) = d * 281474976710656:=by rw [IntKind.wrap_u64,IntKind.wrap_u64];omega
 rw [e0,e1,e2,e3,w0,w1,w2,w3];rw [or_join 16 (b * 65536) a (by omega) (by omega) (by omega) (by omega) (by omega) (by omega),or_join 32 (c * 4294967296) (a + b * 65536) (by omega) (by omega) (by omega) (by omega) (by omega) (by omega)];rw [or_join 48 (d * 281474976710656) _ (by omega) (by omega) (by omega) (by omega) (by omega) (by omega)];simp [valD];omega
set_option maxHeartbeats 800000 in
theorem bfits_any (ad:Option Addr) (a b c d:Int) (ca:Nat) (w:World) (hl:BigAt w ad [a,b,c,d]) (g:Dig [a,b,c,d]) :
 Calls Tryz.prog 269 #[.slice ad 4 ca] w fun e w' => e = .returned (.tuple #[.int .u64 (valD [a,b,c,d]),.bool true])∧w = w':=by
 have e1:=fits_val a b c d (g.get (i:=0) rfl) (g.get (i:=1) rfl) (g.get (i:=2) rfl) (g.get (i:=3) rfl);replace e1:=Lib.hid e1;go_enter Tryz.func269,Tryz.ntmps269;go_wp2_with fail;refine wp_loop_rounds 1 ?_;rw [rounds_succ];go_wp2_with fail;refine (bat_any ad [a,b,c,d] ca 0 _ hl).mono ?_;rintro e wa ⟨rfl,rfl⟩;go_wp2_with fail;refine (bat_any ad [a,b,c,d] ca 1 _ hl).mono ?_;rintro e wb ⟨rfl,rfl⟩;go_wp2_with fail;refine (bat_any ad [a,b,c,d] ca 2 _ hl).mono ?_;rintro e wc ⟨rfl,rfl⟩;go_wp2_with fail;refine (bat_any ad [a,b,c,d] ca 3 _ hl).mono ?_;rintro e wd ⟨rfl,rfl⟩;go_wp2_with fail;go_ret2;exact ⟨by rw [← e1.out];rfl,rfl⟩
theorem bfits4 (ad:Option Addr) (ds:List Int) (ca:Nat) (w:World) (hl:BigAt w ad ds) (g:Dig ds) (h4:ds.length = 4) :
 Calls Tryz.prog 269 #[.slice ad 4 ca] w fun e w' => e = .returned (.tuple #[.int .u64 (valD ds),.bool true])∧w = w':=by
 match ds,h4 with
 | [a,b,c,d],_ => exact bfits_any ad a b c d ca w hl g
def BB (w:World) (b:Nat) (x:Int):Prop :=
 w.heap[b]? = some (.cells #[.int .u32 (x % 65536),.int .u32 (x / 65536 % 65536),.int .u32 (x / 4294967296 % 65536),.int .u32 (x / 281474976710656)] 211 (0,0))
theorem BB.gr {w w':World} {b:Nat} {x:Int} (h:BB w b x) (g:Gr w w'):BB w' b x:=by
 unfold BB at *;rw [Below.block g _ (Array.getElem?_eq_some_iff.1 h).1];exact h
theorem BB.own {base:Nat} {w:World} {b:Nat} {x:Int} (h:BB w b x) (hb:base≤b):w.ownsRow base 211 1 (.slice (some ⟨b,0,none⟩) 4 4) 4 ((digs4 x).flatMap digC) :=
 ⟨rfl,.inr ⟨b,4,_,rfl,hb,h,Nat.le_refl _,by unfold maxLen;decide,rfl,rfl⟩⟩
theorem BB.news {w:World} {b:Nat} {x:Int} (h:BB w b x):∀ j u,((digs4 x).flatMap digC)[j]? = some u→w.cell? ((⟨b,0,none⟩:Addr).add j) = some u :=
 World.news_of_block h
theorem BB.big {w:World} {b:Nat} {x:Int} (h:BB w b x):BigAt w (some ⟨b,0,none⟩) (digs4 x):=by
 intro i s hi;refine ⟨b,0,rfl,(Array.getElem?_eq_some_iff.1 h).1,fun j u hu => ?_⟩;have h1:=flat_get digC_len (digs4 x) i s j u hi hu;have:=h.news _ _ h1;unfold Addr.add at this;rw [Nat.zero_add];split at this
 ·rename_i h0;rw [h0];exact this
 ·simpa using this
set_option maxHeartbeats 800000 in
theorem bof_ex (n:Int) (w:World) (h0:0≤n) (h1:n < 18446744073709551616) :
 Calls Tryz.prog 219 #[.int .u64 n] w fun e w' => ∃ b,e = .returned (.slice (some ⟨b,0,none⟩) 4 4)∧w.heap.size≤b∧BB w' b n∧Gr w w':=by
 have e0:=and_low16 n h0 h1;have e1:=and_low16 (n / 65536) (by omega) (by omega);have e2:=and_low16 (n / 4294967296) (by omega) (by omega);go_enter Tryz.func219,Tryz.ntmps219;go_wp2_with fail;go_ret;exact ⟨w.heap.size,rfl,Nat.le_refl _,heap_alloc_new w _,(Gr.refl _).alloc _⟩
theorem digs8_val (n:Int):valD (digs4 (loW n) ++ digs4 (hiW n)) = n:=by
 rw [valD_append,digs4_val,digs4_val];have:P64 (digs4 (loW n)).length = 18446744073709551616:=by show P64 4 = _;decide
 rw [this];have:=word_eq n;omega
theorem digC_ones (l:List Int):∀ u ∈ l.flatMap digC,u.oneCell' = true:=by
 intro u hu;obtain ⟨y,_,hy⟩:=List.mem_flatMap.1 hu;exact digC_one y u hy
set_option maxRecDepth 100000 in
set_option maxHeartbeats 1600000 in
theorem rof_any (n:Int) (w:World) (hn:Wide n) :
 Calls Tryz.prog 179 #[.agg #[.int .u64 (hiW n),.int .u64 (loW n)]] w (BigP n 8 8 w):=by
 obtain ⟨i109,hi,hz0,hz1,hz2⟩:=info_parts Tryz.infoU32;obtain ⟨l1,l2⟩:=word_lo n;obtain ⟨h1,h2⟩:=word_hi hn;have hfin:=digs8_val n;replace hfin:=Lib.hid hfin;go_enter Tryz.func179,Tryz.ntmps179;go_wp2_with fail;go_region_held3 (fun w' => w'.cell? ⟨w.heap.size,0,none⟩ = some (.int .u64 (hiW n))∧w'.cell? ⟨w.heap.size,1,none⟩ = some (.int .u64 (loW n))) (simp (maxDischargeDepth:=8) [go_sem, *])
  (first
   | (go_at_call 219;(with_reducible refine (bof_ex (loW n) _ l1 l2).mono ?_);rintro e wl ⟨bl,rfl,ll,hbl,gl⟩;(try simp only [World.size_alloc,World.size_drew] at ll);obtain ⟨cl,fl,sl⟩:=gl.cells;(try simp only [World.size_alloc,World.size_drew] at cl fl sl);have zl:w.heap.size < wl.heap.size:=(by omega);have kl:=fun o => cl w.heap.size o (by omega))
   | (go_at_call 219;(with_reducible refine (bof_ex (hiW n) _ h1 h2).mono ?_);rintro e wh ⟨bh,rfl,lh,hbh,gh⟩;obtain ⟨ch,fh,sh⟩:=gh.cells;(try simp only [World.size_alloc,World.size_drew] at ch fh sh);have kh:=fun o => ch w.heap.size o (by omega))
   | (refine step_append_lies _ (by rfl) _ _ _ (by rfl) (w.heap.size + 1) 211 i109 _ 1 4 Tryz.underlying281 hi hz0 hz1 hz2 rfl (by omega) (.slice (some ⟨bl,0,none⟩) 4 4) 4 _ (by rfl) ((hbl.gr gh).own ll) ⟨bh,0,none⟩ 4 4 _ (by rfl) (by rfl) hbh.news (digC_ones _) (by omega) (by unfold maxLen;omega) (by omega) (by omega) _ rfl ?_;intro g8 c8 w8 hown hgrow hat hlt;have k8:=fun o => hgrow.cell_far ⟨w.heap.size,o,none⟩ (by show w.heap.size < _;omega) (by simp [Value.ownBlock];omega))
   | fail)
 go_wp2_with fail;go_ret;have hown':w8.ownsRow (w.heap.size + 1) 211 1 (.slice (some ⟨g8,0,none⟩) (4 + 4) c8) (digs4 (loW n) ++ digs4 (hiW n)).length ((digs4 (loW n) ++ digs4 (hiW n)).flatMap digC):=by
  rw [List.flatMap_append];exact hown
 obtain ⟨a',c',hv,hr,hn',_⟩:=recs_of_owns digC_len hown';cases hv
 refine ⟨digs4 (loW n) ++ digs4 (hiW n),some ⟨g8,0,none⟩,c8,rfl,hfin.out,(digs4_dig l1 l2).append (digs4_dig h1 h2),Nat.le_refl _,Nat.le_refl _,hr,hn',own_cap hown' rfl,?_⟩;exact Gr.grown (((((Gr.refl w).alloc _).drew).trans gl).trans gh) hgrow (fun k hk => by cases hk;show w.heap.size≤bl;omega)
end Go.Proofs.YtdfelohjdkcpkaaGreatDoor
namespace Go.Proofs.YtdfelohjdkcpkaaGreatDoor
open Go.RowKit
theorem P64_4:P64 4 = 18446744073709551616:=by decide
theorem valD_zero {l:List Int} (hd:Dig l) (h:valD l = 0):∀ d ∈ l,d = 0:=by
 induction l with
 | nil => intro d h;cases h
 | cons x r ih =>
  intro d hm;have h1:=hd x (List.mem_cons_self ..);have h2:Dig r:=fun y hy => hd y (List.mem_cons_of_mem _ hy)
  have h3:=(valD_bd h2).1;rw [valD] at h;rcases List.mem_cons.1 hm with rfl | hm
  ·omega
  ·exact ih h2 (by omega) d hm
theorem Dig.drop {a:List Int} (h:Dig a) (n:Nat):Dig (a.drop n):=fun d hd => h d (List.mem_of_mem_drop hd)
theorem parts8 {ds:List Int} (hd:Dig ds) (h8:8≤ds.length) (hw:valD ds < 340282366920938463463374607431768211456) :
 valD (ds.take 4) = loW (valD ds)∧valD ((ds.drop 4).take 4) = hiW (valD ds)∧∀ i d,8≤i→ds[i]? = some d→d = 0:=by
 have e1:=valD_append (ds.take 4) (ds.drop 4);rw [List.take_append_drop,List.length_take,Nat.min_eq_left (by omega),P64_4] at e1;have e2:=valD_append ((ds.drop 4).take 4) ((ds.drop 4).drop 4);rw [List.take_append_drop,List.length_take,List.length_drop,Nat.min_eq_left (by omega),P64_4] at e2;have b1:=valD_bd (hd.take 4);rw [List.length_take,Nat.min_eq_left (by omega),P64_4] at b1;have b2:=valD_bd ((hd.drop 4).take 4);rw [List.length_take,List.length_drop,Nat.min_eq_left (by omega),P64_4] at b2;have b3:=(valD_bd ((hd.drop 4).drop 4)).1;have hz:valD ((ds.drop 4).drop 4) = 0:=by omega
 rw [hz] at e2;unfold loW hiW;refine ⟨by omega,by omega,fun i d hi hid => valD_zero ((hd.drop 4).drop 4) hz d ?_⟩;rw [List.drop_drop];refine List.mem_of_getElem? (i:=i - 8) ?_;rw [List.getElem?_drop,← hid];congr 1;omega
theorem BigAt.take {w:World} {a:Option Addr} {l:List Int} (h:BigAt w a l) (n:Nat):BigAt w a (l.take n):=recs_take h n
theorem BigAt.drop {w:World} {b off:Nat} {l:List Int} (h:BigAt w (some ⟨b,off,none⟩) l) (n:Nat):BigAt w (some ⟨b,off + n,none⟩) (l.drop n):=by
 intro i s hi;rw [List.getElem?_drop] at hi;obtain ⟨b',o',ha,hb,hc⟩:=h _ s hi;cases ha
 exact ⟨b,off + n,rfl,hb,fun j u hu => by have:=hc j u hu;rw [Nat.mul_one] at this ⊢;rw [Nat.add_assoc off];exact this⟩
set_option maxHeartbeats 1600000 in
theorem rback_any (a:Option Addr) (ds:List Int) (c:Nat) (v:Int) (w:World) (ha:BigAt w a ds) (hd:Dig ds) (h8:8≤ds.length) (hm:ds.length≤100) (hcap:Cap ds.length c) (hv:valD ds = v) (hw:Wide v) :
 Calls Tryz.prog 251 #[.slice a ds.length c] w fun e w' => e = .returned (.tuple #[.agg #[.int .u64 (hiW v),.int .u64 (loW v)],.bool true])∧Gr w w':=by
 subst hv;obtain ⟨hc,hc'⟩:=hcap;obtain ⟨p1,p2,p3⟩:=parts8 hd h8 hw.2;obtain ⟨x,hx⟩:=get_some ds 0 (by omega);obtain ⟨b,off,rfl,_,_⟩:=ha.get hx;clear hx;unfold maxLen at hc';have f1:=fun w hw => bfits4 (some ⟨b,off,none⟩) (ds.take 4) c w hw (hd.take 4) (by rw [List.length_take];omega)
 have f2:=fun w hw => bfits4 (some ⟨b,off + 4,none⟩) ((ds.drop 4).take 4) (c - 4) w hw ((hd.drop 4).take 4) (by rw [List.length_take,List.length_drop];omega)
 rw [p1] at f1;rw [p2] at f2;replace f1:=Lib.hid f1;replace f2:=Lib.hid f2;replace p3:=Lib.hid p3;clear p1 p2 hw;go_enter Tryz.func251,Tryz.ntmps251;go_wp2_with fail;go_loopw [4] (fun iv wr => ∃ i:Nat,8≤i∧i≤ds.length∧iv = .int .i64 i∧wr = w.alloc (.cells #[.int .u64 0,.int .u64 0] 193)) (fun iv _ => ds.length - (intOf iv).toNat);case atStart => exact ⟨8,Nat.le_refl _,h8,rfl,rfl⟩
 case round =>
  obtain ⟨i,hi8,hil,rfl,rfl⟩:=hrel;by_cases hlt:i < ds.length
  ·obtain ⟨d,hdi⟩:=get_some ds i hlt;obtain rfl:=p3.out i d hi8 hdi;obtain ⟨b',o',he,hb,c0⟩:=ha.get hdi;cases he
   go_wp2_with fail;go_roundw;case rel => exact ⟨i + 1,by omega,by omega,by go_num,trivial⟩
   case measure => simp [intOf];omega
  ·go_wp2_with fail;refine wp_loop_rounds 1 ?_;rw [rounds_succ];go_wp2_with fail;refine (f1.out _ ((ha.gr ((Gr.refl w).alloc _)).take 4)).mono ?_;rintro e wa ⟨rfl,rfl⟩;go_wp2_with fail;refine (f2.out _ (((ha.gr ((Gr.refl w).alloc _)).drop 4).take 4)).mono ?_;rintro e wb ⟨rfl,rfl⟩;go_wp2_with fail;refine bodyPost_ret (v:=.tuple #[.agg #[.int .u64 (hiW (valD ds)),.int .u64 (loW (valD ds))],.bool true]) (by simp (maxDischargeDepth:=8) [results,Tryz.results251,go_sem, *]) rfl ⟨rfl,?_⟩;repeat (first | exact Gr.refl _ | apply Gr.alloc | apply Gr.drew | apply Gr.drewN | (refine Gr.setCell ?_ (by simp) _) | (refine Gr.trans ?_ (by assumption)))
end Go.Proofs.YtdfelohjdkcpkaaGreatDoor
