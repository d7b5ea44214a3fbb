/- The cyclic check, in plain numbers: bits, bytes, frames; one byte that is another is found. Bytes in memory; package crc: step, Update, Sum. crc.put, crc.Frame, crc.get. -/
import Derived.Test.YtdfelohjdkcpkaaGreatDoorKK26
import Derived.Deep.RegionWith
import Derived.Laws.IdiomStrings
set_option maxRecDepth 100000
set_option maxHeartbeats 6400000
namespace Go.Proofs.YtdfelohjdkcpkaaGreatDoor
open Go.RowKit
def H4:Nat:=0xedb88320
def Ec (w:Nat):Nat:=(w / 2) ^^^ (if w % 2 = 1 then H4 else 0)
def CH:Nat→Nat→Nat
 | 0,w => w
 | k + 1,w => CH k (Ec w)
theorem HR (a b c:Nat):a ^^^ (b ^^^ c) = b ^^^ (a ^^^ c):=by rw [← Nat.xor_assoc,Nat.xor_comm a b,Nat.xor_assoc]
theorem Ow (a b:Nat):Ec (a ^^^ b) = Ec a ^^^ Ec b:=by
 unfold Ec;rw [Nat.xor_div_two];have ha:=Nat.mod_two_eq_zero_or_one a;have hb:=Nat.mod_two_eq_zero_or_one b;generalize a / 2 = x at *;generalize b / 2 = y at *;rcases ha with ha | ha <;> rcases hb with hb | hb
 ·rw [if_neg (by rw [Nat.xor_mod_two_eq_one];omega),if_neg (by omega),if_neg (by omega)];simp
 ·rw [if_pos (by rw [Nat.xor_mod_two_eq_one];omega),if_neg (by omega),if_pos hb,Nat.xor_zero,Nat.xor_assoc]
 ·rw [if_pos (by rw [Nat.xor_mod_two_eq_one];omega),if_pos ha,if_neg (by omega),Nat.xor_zero,Nat.xor_assoc,Nat.xor_assoc,Nat.xor_comm y H4]
 ·rw [if_neg (by rw [Nat.xor_mod_two_eq_one];omega),if_pos ha,if_pos hb,Nat.xor_zero,Nat.xor_assoc,HR H4,Nat.xor_self,Nat.xor_zero]
theorem HK:∀ (k a b:Nat),CH k (a ^^^ b) = CH k a ^^^ CH k b
 | 0,_,_ => rfl
 | k + 1,a,b => by rw [CH,CH,CH,Ow,HK k]
theorem HL:∀ (k X:Nat),CH k X = X / 2 ^ k ^^^ CH k (X % 2 ^ k)
 | 0,X => by simp [CH,Nat.mod_one]
 | k + 1,X => by
  have h1:X % 2 ^ (k + 1) % 2 = X % 2:=Nat.mod_mod_of_dvd X (Nat.pow_dvd_pow 2 (show 1≤k + 1 by omega));have h2:X % 2 ^ (k + 1) / 2 = (X / 2) % 2 ^ k:=by
   rw [Nat.pow_succ,Nat.mul_comm];exact Nat.mod_mul_right_div_self X 2 (2 ^ k)
  rw [CH,CH];unfold Ec;rw [h1,h2,HK,HK,HL k (X / 2),Nat.div_div_eq_div_mul,Nat.pow_succ,Nat.mul_comm 2,Nat.xor_assoc]
def Pa (w c:Nat):Nat:=(w / 256) ^^^ CH 8 ((w % 256) ^^^ c)
theorem LJ {c:Nat} (hc:c < 256) (w:Nat):CH 8 (w ^^^ c) = Pa w c:=by
 rw [HL 8 (w ^^^ c),Nat.xor_div_two_pow,Nat.xor_mod_two_pow,Nat.mod_eq_of_lt (a:=c) (by simpa using hc),Nat.div_eq_of_lt (a:=c) (by simpa using hc),Nat.xor_zero];rfl
theorem Ju {w:Nat} (h:w < 4294967296):Ec w < 4294967296:=by
 unfold Ec;refine Nat.xor_lt_two_pow (n:=32) (by omega) ?_;split
 ·decide
 ·decide
theorem Jt:∀ (k:Nat) {w:Nat},w < 4294967296→CH k w < 4294967296
 | 0,_,h => h
 | k + 1,_,h => Jt k (Ju h)
theorem Pe {w c:Nat} (h:w < 4294967296) (hc:c < 256):Pa w c < 4294967296:=by
 rw [← LJ hc];exact Jt 8 (Nat.xor_lt_two_pow (n:=32) h (by omega))
def Eb (w:Nat) (l:List UInt8):Nat:=l.foldl (fun w c => Pa w c.toNat) w
theorem Ky (w:Nat) (a b:List UInt8):Eb w (a ++ b) = Eb (Eb w a) b:=List.foldl_append
theorem IL (w:Nat) (a:List UInt8) (c:UInt8):Eb w (a ++ [c]) = Pa (Eb w a) c.toNat:=by rw [Ky];rfl
theorem FE:∀ (l:List UInt8) {w:Nat},w < 4294967296→Eb w l < 4294967296
 | [],_,h => h
 | c :: l,_,h => FE l (Pe h c.toNat_lt)
def crc (l:List UInt8):Nat:=4294967295 - Eb 4294967295 l
theorem Ot (l:List UInt8):crc l < 4294967296:=by unfold crc;omega
theorem LV {x:Nat} (h:x < 4294967296):x ^^^ 4294967295 = 4294967295 - x:=by
 have h1:=congrArg BitVec.toNat (BitVec.xor_allOnes (x:=BitVec.ofNat 32 x));rw [BitVec.toNat_xor,BitVec.toNat_not,BitVec.toNat_ofNat,Nat.mod_eq_of_lt (by simpa using h)] at h1;exact h1
def Cs (n:Nat):List UInt8:=[UInt8.ofNat n,UInt8.ofNat (n / 256),UInt8.ofNat (n / 65536),UInt8.ofNat (n / 16777216)]
def Cy (p:List UInt8):List UInt8:=Cs p.length ++ p ++ Cs (crc (Cs p.length ++ p))
theorem Lo (p:List UInt8):(Cy p).length = p.length + 8:=by unfold Cy;simp [Cs]
abbrev Cq (b:UInt8):List Value:=[.int .u8 (b.toNat:Int)]
theorem Bi (b:UInt8):(Cq b).length = 1:=rfl
theorem Co (b:UInt8):∀ u ∈ Cq b,u.oneCell' = true:=by intro u hu;simp at hu;subst hu;rfl
def Az (w:World) (a:Option Addr) (l:List UInt8):Prop:=Al 1 Cq w a l
theorem Az.get {w:World} {a:Option Addr} {l:List UInt8} (h:Az w a l) {i:Nat} {d:UInt8} (hd:l[i]? = some d):∃ b off,a = some ⟨b,off,none⟩∧b < w.heap.size∧w.cell? ⟨b,off + i,none⟩ = some (.int .u8 (d.toNat:Int)):=by
 obtain ⟨b,off,ha,hb,hc⟩:=h i d hd;exact ⟨b,off,ha,hb,by have:=hc 0 _ rfl;rwa [Nat.mul_one,Nat.add_zero] at this⟩
theorem Az.gr {w w':World} {a:Option Addr} {l:List UInt8} (h:Az w a l) (g:Gr w w'):Az w' a l:=by
 intro i s hi;obtain ⟨b,off,ha,hb,hc⟩:=h i s hi;exact ⟨b,off,ha,Nat.lt_of_lt_of_le hb g.size,fun j u hu => by rw [g.cells.1 _ _ hb];exact hc j u hu⟩
theorem Ie (n:Int) (h₀:0≤n) (h₁:n < 2 ^ 32):IntKind.u32.wrap n = n:=by rw [IntKind.wrap_u32];omega
theorem LG (k:IntKind) (j:Nat) (hj:j≤k.bits) (hk:∀ n:Int,0≤n→n < 2 ^ j→k.wrap n = n) (a b:Nat) (ha:a < 2 ^ j) (hb:b < 2 ^ j):bits .xor k a b = ((a ^^^ b:Nat):Int):=by
 have hp:2 ^ j≤2 ^ k.bits:=Nat.pow_le_pow_right (by decide) hj;have ha':a % 2 ^ k.bits = a:=Nat.mod_eq_of_lt (Nat.lt_of_lt_of_le ha hp);have hb':b % 2 ^ k.bits = b:=Nat.mod_eq_of_lt (Nat.lt_of_lt_of_le hb hp);simp only [bits,BitVec.ofInt_natCast,BitVec.toNat_xor,BitVec.toNat_ofNat,ha',hb'];exact hk _ (Int.natCast_nonneg _) (by exact_mod_cast Nat.xor_lt_two_pow ha hb)
theorem DU {a b:Nat} (ha:a < 4294967296) (hb:b < 4294967296):bits .xor .u32 a b = ((a ^^^ b:Nat):Int):=LG .u32 32 (by decide) Ie a b ha hb
theorem Pd {a b:Nat} (ha:a < 256) (hb:b < 256):bits .xor .u8 a b = ((a ^^^ b:Nat):Int):=LG .u8 8 (by decide) wraps_u8 a b ha hb
theorem Jv {a b:Nat} (ha:a < 4294967296) (hb:b < 4294967296):bits .and .u32 a b = ((a &&& b:Nat):Int):=(bits_nat .u32 32 (by decide) Ie a b ha hb).1
theorem O7 (a:Nat):a &&& 1 = a % 2:=Nat.and_two_pow_sub_one_eq_mod a 1
theorem Ox {m:Nat} (hm:m < 4294967296):bits .xor .u32 ((m:Int) / 2) (bits .and .u32 3988292384 (-((m:Int) % 2) % 4294967296)) = ((Ec m:Nat):Int):=by
 have hq:(m:Int) / 2 = ((m / 2:Nat):Int):=rfl;unfold Ec;by_cases h:m % 2 = 1
 ·have e1:-((m:Int) % 2) % 4294967296 = ((4294967295:Nat):Int):=by omega
  have e2:bits .and .u32 3988292384 ((4294967295:Nat):Int) = ((H4:Nat):Int):=by
   have:=Jv (a:=H4) (b:=4294967295) (by decide) (by decide);rw [show H4 &&& 4294967295 = H4 by decide] at this;exact this
  rw [e1,e2,hq,DU (by omega) (by decide),if_pos h]
 ·have e1:-((m:Int) % 2) % 4294967296 = ((0:Nat):Int):=by omega
  have e2:bits .and .u32 3988292384 ((0:Nat):Int) = ((0:Nat):Int):=by
   have:=Jv (a:=H4) (b:=0) (by decide) (by decide);rw [show H4 &&& 0 = 0 by decide] at this;exact this
  rw [e1,e2,hq,DU (by omega) (by decide),if_neg h]
theorem NF (n:Nat) (hn:n < 4294967296) (w:World) :
 Calls Tryz.prog 271 #[.int .u32 n] w fun e w' => e = .returned (.int .u32 (CH 8 n))∧w = w':=by
 go_enter Tryz.func271,Tryz.ntmps271;go_wp2_with fail;go_loop [4,0] (fun iv nv => ∃ k:Nat,∃ m:Nat,k≤8∧iv = .int .i64 k∧nv = .int .u32 m∧m < 4294967296∧CH (8 - k) m = CH 8 n) (fun iv _ => 8 - (intOf iv).toNat);case atStart => exact ⟨0,n,by omega,rfl,rfl,hn,rfl⟩
 case round =>
  obtain ⟨k,m,hk,rfl,rfl,hm,he⟩:=hrel;by_cases hlt:k < 8
  ·have hlt2:(k:Int) < 8:=by omega
   have h1:bits .and .u32 (m:Int) 1 = ((m % 2:Nat):Int):=by
    have:=Jv (a:=m) (b:=1) hm (by omega);rw [O7] at this;exact this
   have hv:=Ox hm;have he2:CH (8 - (k + 1)) (Ec m) = CH 8 n:=by rw [← he,show 8 - k = 8 - (k + 1) + 1 by omega];rfl
   replace he2:=zH he2;replace he:=zH he;go_wp2_with fail;go_round;case rel => exact ⟨k + 1,Ec m,by omega,by go_num,rfl,Ju hm,he2.out⟩
   case measure => simp [intOf];omega
  ·obtain rfl:k = 8:=by omega
   have hm2:m = CH 8 n:=he;replace he:=Lib.hid hm2;go_wp2_with fail;go_ret;exact ⟨rfl,rfl⟩
theorem KS (a:Option Addr) (c:Nat) (l:List UInt8) (n:Nat) (hn:n < 4294967296) (w:World) (h:Az w a l) (hm:l.length≤maxLen) :
 Calls Tryz.prog 256 #[.int .u32 n,.slice a l.length c] w fun e w' => e = .returned (.int .u32 (Eb n l))∧w = w':=by
 have hmm:=hm;unfold maxLen at hmm;go_enter Tryz.func256,Tryz.ntmps256;go_wp2_with fail;go_loop [9,0] (fun iv nv => ∃ k:Nat,k≤l.length∧iv = .int .i64 k∧nv = .int .u32 (Eb n (l.take k))) (fun iv _ => l.length - (intOf iv).toNat);case atStart => exact ⟨0,Nat.zero_le _,rfl,rfl⟩
 case round =>
  obtain ⟨k,hk,rfl,rfl⟩:=hrel;by_cases hlt:k < l.length
  ·obtain ⟨x,hx⟩:=Ac l k hlt;obtain ⟨b,off,rfl,hb,c0⟩:=h.get hx;have hc:=x.toNat_lt;have hw:=FE (l.take k) hn;have hs:Eb n (l.take (k + 1)) = Pa (Eb n (l.take k)) x.toNat:=by rw [Ae hx,IL]
   generalize Eb n (l.take k) = m at *;have e1:bits .xor .u8 ((m:Int) % 256) (x.toNat:Int) = (((m % 256) ^^^ x.toNat:Nat):Int):=Pd (a:=m % 256) (by omega) (by omega);have hx8:(m % 256) ^^^ x.toNat < 2 ^ 8:=Nat.xor_lt_two_pow (by omega) (by omega);have hst:=fun w => NF ((m % 256) ^^^ x.toNat) (by omega) w
   have hb8:=Jt 8 (w:=(m % 256) ^^^ x.toNat) (by omega);have e2:bits .xor .u32 ((m:Int) / 256) ((CH 8 ((m % 256) ^^^ x.toNat):Nat):Int) = ((Pa m x.toNat:Nat):Int):=DU (a:=m / 256) (by omega) hb8;generalize hz:(m % 256) ^^^ x.toNat = z at *;generalize CH 8 z = y at *;generalize Pa m x.toNat = u at *;refine B0 ?_ hs hst hx hz;clear hs hst hx hz;intro hs hst hx hz;go_wp2_with fail;refine (hst.out _).mono ?_;rintro e w2 ⟨rfl,rfl⟩;go_wp2_with fail;go_round;case rel => exact ⟨k + 1,by omega,by go_num,by rw [hs.out]⟩
   case measure => simp [intOf];omega
  ·have hall:l.take k = l:=List.take_of_length_le (by omega);rw [hall];go_wp2_with fail;go_ret;exact ⟨rfl,rfl⟩
theorem Oq (a:Option Addr) (c:Nat) (l:List UInt8) (w:World) (h:Az w a l) (hm:l.length≤maxLen) :
 Calls Tryz.prog 224 #[.slice a l.length c] w fun e w' => e = .returned (.int .u32 (crc l))∧w = w':=by
 have hu:=KS a c l 4294967295 (by omega) w h hm;have hw:=FE l (w:=4294967295) (by omega);unfold crc;generalize Eb 4294967295 l = m at *;have hv:bits .xor .u32 IntKind.u32.max (m:Int) = ((4294967295 - m:Nat):Int):=by
  have:=DU (a:=4294967295) (b:=m) (by omega) hw;rw [Nat.xor_comm,LV hw] at this;exact this
 replace hv:=zH hv;replace hu:=zH hu;go_enter Tryz.func224,Tryz.ntmps224;go_wp2_with fail;refine hu.out.mono ?_;rintro e w2 ⟨rfl,rfl⟩;go_wp2_with fail;go_ret;exact ⟨congrArg (fun v => Ending.returned (.int .u32 v)) hv.out,rfl⟩
theorem Tryz.infoU8:(Tryz.prog.info? 5).map (fun i => (i.zero,i.size,i.bytes)) = some (some (.int .u8 0),1,1):=by kernel_rfl
theorem BO {α:Type} {k:Nat} {enc:α→List Value} (hk:∀ s,(enc s).length = k) (W:World) {n:Nat} (hn:W.heap.size = n) (l:List α) (e:TypeId) (cs:Array Value) (h:cs.toList = l.flatMap enc):Al k enc (W.alloc (.cells cs e)) (some ⟨n,0,none⟩) l:=by
 subst hn;exact An hk W l e cs h
def Own (W w:World) (a:Option Addr) (c:Nat) (l:List UInt8):Prop:=w.ownsRow W.heap.size 5 1 (.slice a l.length c) l.length (l.flatMap Cq)∧Az w a l∧(a = none→c = 0)∧(∀ x,a = some x→W.heap.size≤x.block)∧Gr W w
theorem Own.nil (W w:World) (g:Gr W w):Own W w none 0 []:=⟨World.ownsRow_nil _ _ _ _,fun i s hi => by simp at hi,(fun _ => rfl),(fun x hx => by cases hx),g⟩
theorem Own.of {W w:World} {v:Value} {l:List UInt8} (h:w.ownsRow W.heap.size 5 1 v l.length (l.flatMap Cq)) (g:Gr W w):∃ a c,v = .slice a l.length c∧Own W w a c l:=by
 obtain ⟨a,c,rfl,hr,hn,hb⟩:=Af Bi h;exact ⟨a,c,rfl,h,hr,hn,hb,g⟩
theorem Own.gr {W w w':World} {a:Option Addr} {c:Nat} {l:List UInt8} (h:Own W w a c l) (g:Gr w w'):Own W w' a c l:=⟨As h.1 g,h.2.1.gr g,h.2.2.1,h.2.2.2.1,h.2.2.2.2.trans g⟩
theorem Ci (n:Nat):(Cs n).length = 4:=rfl
theorem Hq {n:Nat} (hn:n < 4294967296):#[Value.int .u8 ((n:Int) % 256),.int .u8 ((n:Int) / 256 % 256),.int .u8 ((n:Int) / 65536 % 256),.int .u8 ((n:Int) / 16777216)].toList = (Cs n).flatMap Cq:=by
 have e:∀ m:Nat,((UInt8.ofNat m).toNat:Int) = (m:Int) % 256:=fun m => by rw [UInt8.toNat_ofNat'];rfl
 have e2:(n:Int) / 16777216 = ((n / 16777216:Nat):Int) % 256:=by omega
 rw [e2];simp only [Cs,Cq,List.flatMap_cons,List.flatMap_nil,e,List.cons_append,List.nil_append];rfl
theorem LO (W w:World) (a:Option Addr) (c:Nat) (l:List UInt8) (n:Nat) (hn:n < 4294967296) (h:Own W w a c l) (hm:l.length≤1000000) :
 Calls Tryz.prog 223 #[.slice a l.length c,.int .u32 n] w fun e w' => ∃ a' c',e = .returned (.slice a' (l ++ Cs n).length c')∧Own W w' a' c' (l ++ Cs n):=by
 obtain ⟨i5,hi,hz0,hz1,hz2⟩:=info_parts Tryz.infoU8;obtain ⟨hown,hr,hc,hb,g⟩:=h;have n1:l.length + (Cs n).length≤maxLen:=by rw [Ci];unfold maxLen;omega
 have n2:(l.length + (Cs n).length) * 1≤140737488355328:=by rw [Ci];omega
 have n3:=g.size;refine AZ ?_ hr hb hc;clear hr hb hc;intro hr hb hc;go_enter Tryz.func223,Tryz.ntmps223;go_wp2_with (at_builtin;go_loud (refine Ai (k:=1) (enc:=Cq) rfl _ _ 54 rfl W.heap.size 5 i5 _ 1 Tryz.underlying54 hi hz0 hz1 hz2 rfl (by decide) Bi Co (.slice a l.length c) l rfl (As hown ((Gr.refl w).alloc _)) (some ⟨w.heap.size,0,none⟩) 4 (Cs n) rfl (An Bi w (Cs n) _ _ (Hq hn)) (fun h => by cases h) n1 n2 (BG n3 _) ?_;intro v1 w1 hown1 hgr1;have hg1:Gr W w1:=(g.alloc _).grown hgr1 (A7 hown)));go_ret;obtain ⟨a',c',rfl,ho⟩:=Own.of hown1 hg1;exact ⟨a',c',rfl,ho⟩
theorem M5 (w:World) (a:Option Addr) (c:Nat) (l:List UInt8) (h:Az w a l) (hc:a = none→c = 0) (hl:l.length≤32768) :
 Calls Tryz.prog 187 #[.slice a l.length c] w fun e w' => ∃ a' c',e = .returned (.tuple #[.slice a' (Cy l).length c',.nilIface])∧Own w w' a' c' (Cy l):=by
 obtain ⟨i5,hi,hz0,hz1,hz2⟩:=info_parts Tryz.infoU8;have hp1:=LO w w none 0 [] l.length (by omega) (Own.nil w w (Gr.refl w)) (by simp);have hfl:=Lo l;obtain ⟨L2,hL2⟩:=zE (Cs l.length ++ l);have hL2l:L2.length = 4 + l.length:=by rw [hL2,List.length_append,Ci]
 have hsu:=fun a1 c1 w1 (hb:Az w1 a1 L2) => Oq a1 c1 L2 w1 hb (by unfold maxLen;omega)
 have hp2:=fun a1 c1 w1 (ho:Own w w1 a1 c1 L2) => LO w w1 a1 c1 L2 (crc L2) (Ot _) ho (by omega)
 have hfr:L2 ++ Cs (crc L2) = Cy l:=by rw [hL2];rfl
 rw [hfr] at hp2;have n1:(Cs l.length).length + l.length≤maxLen:=by rw [Ci];unfold maxLen;omega
 have n2:((Cs l.length).length + l.length) * 1≤140737488355328:=by rw [Ci];omega
 rw [show ([]:List UInt8) ++ Cs l.length = Cs l.length from rfl] at hp1;refine Br ?_ hp1 hp2 hsu h hfl hL2 hfr hL2l;clear hp1 hp2 hsu h hfl hL2 hfr hL2l;intro hp1 hp2 hsu h hfl hL2 hfr hL2l;go_enter Tryz.func187,Tryz.ntmps187;go_wp2_with fail;refine hp1.out.mono ?_;rintro e w1 ⟨a1,c1,rfl,ho1⟩;obtain ⟨ow,br,bn,bb,g1⟩:=ho1;have n3:=g1.size;have hs1:=h.out.gr g1;refine B0 ?_ br bb bn hs1;clear br bb bn hs1;intro br bb bn hs1;go_wp2_with (at_builtin;go_loud (refine Ai (k:=1) (enc:=Cq) rfl _ _ 54 rfl w.heap.size 5 i5 _ 1 Tryz.underlying54 hi hz0 hz1 hz2 rfl (by decide) Bi Co (.slice a1 (Cs l.length).length c1) (Cs l.length) rfl ow a c l rfl hs1.out hc n1 n2 n3 ?_;intro v2 w2 hown2 hgr2;rw [← hL2.out] at hown2;have g2:Gr w w2:=g1.grown hgr2 (A7 ow);obtain ⟨a2,c2,hv2,ho2⟩:=Own.of hown2 g2;subst hv2;have hb2:=ho2.2.1;replace ho2:=zH ho2;replace hb2:=zH hb2));refine (hsu.out a2 c2 w2 hb2.out).mono ?_;rintro e w3 ⟨rfl,rfl⟩;go_wp2_with fail;refine (hp2.out a2 c2 w2 ho2.out).mono ?_;rintro e w4 ⟨a4,c4,rfl,ho4⟩;replace ho4:=zH ho4;go_wp2_with fail;go_ret2;exact ⟨a4,c4,rfl,ho4.out⟩
theorem FM {α:Type} {k:Nat} {enc:α→List Value} {P:Program} {w:World} {ops:Array Oper} {rest:List Oper} {o:Oper} {a:Act} {Q:Exit→Act→World→Prop} (hgd:o.guard = none) (s x:Operand) (t:TypeId)
 (ho:o.op = .call { callee:=.builtin .append,args:=#[s,x],argTypes:=#[t,t] })
 (base:Nat) (e:TypeId) (i:TypeInfo) (z:Value) (bytes:Nat) (ht:P.underlying t = some (.slice e)) (hi:P.info? e = some i) (hz:i.zero = some z)
 (hsize:i.size = k) (hby:i.bytes = bytes) (hzs:z.cells.size = k) (hsz:0 < k)
 (hk:∀ s,(enc s).length = k) (h1:∀ s,∀ u ∈ enc s,u.oneCell' = true)
 (v:Value) (l0:List α) (hs:a.eval s = v) (hown:w.ownsRow base e k v l0.length (l0.flatMap enc))
 (sa:Option Addr) (c:Nat) (l:List α) (hx:a.eval x = .slice sa l.length c) (hl:Al k enc w sa l) (hc:sa = none→c = 0)
 (h63:l0.length + l.length≤maxLen) (hbytes:(l0.length + l.length) * bytes≤140737488355328) (hbase:base≤w.heap.size)
 (h:∀ v' w',w'.ownsRow base e k v' (l0 ++ l).length ((l0 ++ l).flatMap enc)→w.grownBy w' v.ownBlock→(v'.ownBlock = v.ownBlock ∨ v'.ownBlock = some w.heap.size)→wpList P ops Q rest (a.put o.dst v') w'):wpList P ops Q (o :: rest) a w:=by
 cases sa with
 | none =>
  obtain rfl:=hc rfl;obtain rfl:l = []:=by
   cases l with
   | nil => rfl
   | cons y r => obtain ⟨b,off,hh,_⟩:=hl 0 y rfl;cases hh
  refine wpList_append_own_none hgd s x t ho base e i k ht hi v l0.length (l0.flatMap enc) hs hown hx ?_;exact h v w (by simpa using hown) ⟨rfl,rfl,rfl,Nat.le_refl _,fun _ _ _ => rfl⟩ (.inl rfl)
 | some ad =>
  refine wpList_append_own_at w hgd s x t ho base e i z k bytes ht hi hz hsize hby hzs hsz v l0.length (l0.flatMap enc) hs hown ad l.length c (l.flatMap enc) hx (BZ hk l) ?_ ?_ h63 hbytes hbase ?_
  ·intro j u hj;obtain ⟨y,hy,hu⟩:=Jm hk hsz l j u hj;obtain ⟨b,off,hh,_,hcell⟩:=hl _ y hy;obtain rfl:=Option.some.inj hh;have:=hcell _ u hu;have e1:off + j / k * k + j % k = off + j:=by rw [Nat.add_assoc,Nat.mul_comm,Nat.div_add_mod]
   rw [e1] at this;unfold Addr.add;by_cases hj0:j = 0
   ·subst hj0;simpa using this
   ·simpa [hj0] using this
  ·intro u hu;obtain ⟨y,_,hy⟩:=List.mem_flatMap.1 hu;exact h1 y u hy
  ·intro v' w' ho' hg' _ h5;exact h v' w' (by simpa using ho') hg' h5
def BX (n:Nat):List UInt8:=if h:n < 128 then [UInt8.ofNat n] else UInt8.ofNat (n % 128 + 128) :: BX (n / 128)
termination_by n
decreasing_by omega
theorem De {n:Nat} (h:n < 128):BX n = [UInt8.ofNat n]:=by rw [BX,dif_pos h]
theorem Fc {n:Nat} (h:¬ n < 128):BX n = UInt8.ofNat (n % 128 + 128) :: BX (n / 128):=by rw [BX,dif_neg h]
theorem Hk:∀ (k:Nat) {n:Nat},n < 128 ^ (k + 1)→(BX n).length≤k + 1
 | k,n,h => by
  by_cases hs:n < 128
  ·rw [De hs];simp
  ·rw [Fc hs];cases k with
   | zero => simp at h;omega
   | succ k =>
    have:=Hk k (n:=n / 128) (by rw [Nat.pow_succ] at h;exact Nat.div_lt_of_lt_mul (by rw [Nat.mul_comm];exact h));simp;omega
theorem EP {n:Nat} (h:n < 9223372036854775808):(BX n).length≤10:=Hk 9 (by omega)
theorem Pn {n:Nat} (h:n≤1099511627776):(BX n).length≤6:=Hk 5 (by omega)
def C8 (W w:World) (wb B:Nat) (L:List UInt8):Prop:=∃ a c,Ag w wb #[.slice a L.length c,.bool false] 289∧Own W w a c L∧W.heap.size≤wb∧wb < B∧(∀ x,a = some x→x.block < B∧x.block ≠ wb)∧B≤w.heap.size
theorem C8.gr {W w w':World} {wb B:Nat} {L:List UInt8} (h:C8 W w wb B L) (g:Gr w w'):C8 W w' wb B L:=by
 obtain ⟨a,c,h1,h2,h3,h4,h5,h6⟩:=h;exact ⟨a,c,h1.gr g,h2.gr g,h3,h4,h5,Nat.le_trans h6 g.size⟩
theorem C8.world {W w:World} {wb B:Nat} {L:List UInt8} (h:C8 W w wb B L):Gr W w:=by
 obtain ⟨a,c,h1,h2,_⟩:=h;exact h2.2.2.2.2
theorem C8.full {W w:World} {wb B:Nat} {L:List UInt8} (h:C8 W w wb B L):C8 W w wb w.heap.size L:=by
 obtain ⟨a,c,h1,h2,h3,h4,h5,h6⟩:=h;exact ⟨a,c,h1,h2,h3,by omega,fun x hx => ⟨by have:=(h5 x hx).1;omega,(h5 x hx).2⟩,Nat.le_refl _⟩
theorem H5 (w:World):Calls Tryz.prog 110 #[] w fun e w' => e = .returned (.pointer (some ⟨w.heap.size,0,none⟩))∧C8 w w' w.heap.size w'.heap.size []:=by
 go_enter Tryz.func110,Tryz.ntmps110;go_wp2_with fail;go_ret;exact ⟨rfl,none,0,Ag.new w _ _,Own.nil w _ ((Gr.refl w).alloc _),Nat.le_refl _,by simp,(fun x hx => by cases hx),Nat.le_refl _⟩
theorem or128 {m:Nat} (h:m < 128):bits .or .u8 (m:Int) 128 = ((m + 128:Nat):Int):=by
 have:=(bits_nat .u8 8 (by decide) wraps_u8 m 128 (by omega) (by omega)).2;rw [Nat.or_comm,show (128:Nat) = 2 ^ 7 * 1 from rfl,← Nat.two_pow_add_eq_or_of_lt (by omega) 1] at this;rw [show ((2 ^ 7 * 1:Nat):Int) = 128 from rfl] at this;rw [this];omega
theorem Ps (n:Nat) (h:n < 9223372036854775808):bits .and .i64 (n:Int) 127 = ((n % 128:Nat):Int) :=
 bits_mask .i64 63 (by decide) (fun n h₀ h₁ => by rw [IntKind.wrap_i64];omega) 7 (by decide) n (by omega) (by omega)
theorem F6 (n:Nat) (h:n < 256):#[Value.int .u8 (n:Int)].toList = [UInt8.ofNat n].flatMap Cq:=by
 have e:((UInt8.ofNat n).toNat:Int) = (n:Int):=by rw [UInt8.toNat_ofNat'];omega
 simp only [List.flatMap_cons,List.flatMap_nil,Cq,e];rfl
theorem LU {a:Option Addr} {n c:Nat} {x:Addr} (h:a = some x):(Value.slice a n c).ownBlock = some x.block:=by subst h;rfl
theorem MJ {w:World} {base:Nat} {e:TypeId} {size:Nat} {v:Value} {n:Nat} {xs:List Value} (h:w.ownsRow base e size v n xs) {p:Addr} (hp:∀ g,v.ownBlock = some g→g ≠ p.block) (u:Value):(w.setCell p u).ownsRow base e size v n xs:=by
 refine ⟨h.1,?_⟩;rcases h.2 with hn | ⟨b,cap,cur,h1,h2,h3,h4⟩
 ·exact .inl hn
 ·refine .inr ⟨b,cap,cur,h1,h2,?_,h4⟩;rw [heap_setCell_other w p b u (hp b (by rw [h1];rfl))];exact h3
theorem Az.set {w:World} {a:Option Addr} {l:List UInt8} (h:Az w a l) {p:Addr} (hp:∀ x,a = some x→x.block ≠ p.block) (u:Value):Az (w.setCell p u) a l:=by
 intro i s hi;obtain ⟨b,off,ha,hb,hc⟩:=h i s hi;refine ⟨b,off,ha,by simp;exact hb,fun j v hv => ?_⟩;have hne:b ≠ p.block:=hp _ ha;rw [World.cell?_of_block (heap_setCell_other w p b u hne)];exact hc j v hv
theorem Own.set {W w:World} {a:Option Addr} {c:Nat} {l:List UInt8} (h:Own W w a c l) {p:Addr} (hp:∀ x,a = some x→x.block ≠ p.block) (hW:W.heap.size≤p.block) (u:Value):Own W (w.setCell p u) a c l:=by
 obtain ⟨h1,h2,h3,h4,h5⟩:=h;refine ⟨MJ h1 (fun g hg => ?_) u,h2.set hp u,h3,h4,h5.setCell hW u⟩;cases a with
 | none => cases hg
 | some x => cases hg;exact hp x rfl
theorem Own.lt {W w:World} {a:Option Addr} {c:Nat} {l:List UInt8} (h:Own W w a c l) {x:Addr} (hx:a = some x):x.block < w.heap.size:=(Ar h.1 _ (LU hx)).1
def L9 (W w0 w:World) (wb B:Nat) (L:List UInt8):Prop:=∃ a c,Ag w wb #[.slice a L.length c,.bool false] 289∧Own W w a c L∧W.heap.size≤wb∧wb < B∧(∀ x,a = some x→x.block ≠ wb∧(x.block < B ∨ w0.heap.size≤x.block))∧(∀ k,B≤k→k < w0.heap.size→w.heap[k]? = w0.heap[k]?)∧w0.heap.size≤w.heap.size∧B≤w0.heap.size
theorem C8.k {W w:World} {wb B:Nat} {L:List UInt8} (h:C8 W w wb B L):L9 W w w wb B L:=by
 obtain ⟨a,c,h1,h2,h3,h4,h5,h6⟩:=h;exact ⟨a,c,h1,h2,h3,h4,fun x hx => ⟨(h5 x hx).2,.inl (h5 x hx).1⟩,fun _ _ _ => rfl,Nat.le_refl _,h6⟩
theorem L9.at {W w0 w:World} {wb B:Nat} {L:List UInt8} (h:L9 W w0 w wb B L):C8 W w wb w.heap.size L:=by
 obtain ⟨a,c,h1,h2,h3,h4,h5,h6,h7,h8⟩:=h;exact ⟨a,c,h1,h2,h3,h1.lt,fun x hx => ⟨h2.lt hx,(h5 x hx).1⟩,Nat.le_refl _⟩
theorem L9.put {W w0 wr wm w1:World} {wb B N n0 c0:Nat} {a0:Option Addr} {cs:Array Value} {L2:List UInt8} {a1:Option Addr} {c2:Nat} (hwb:W.heap.size≤wb) (hwB:wb < B) (hB:B≤w0.heap.size) (hb1:Ag w1 wb cs 289) (hcs:∀ v,cs.setIfInBounds 0 v = #[v,.bool false]) (ho1:Own W w1 a1 c2 L2) (hat:(Value.slice a1 L2.length c2).ownBlock = (Value.slice a0 n0 c0).ownBlock ∨ (Value.slice a1 L2.length c2).ownBlock = some N) (hN:w0.heap.size≤N) (hax:∀ x,a0 = some x→x.block ≠ wb∧(x.block < B ∨ w0.heap.size≤x.block))
 (hgr:wm.grownBy w1 (Value.slice a0 n0 c0).ownBlock) (hwm:Gr wr wm) (hk:∀ k,B≤k→k < w0.heap.size→wr.heap[k]? = w0.heap[k]?) (h0r:w0.heap.size≤wr.heap.size) :
 L9 W w0 (w1.setCell ⟨wb,0,none⟩ (.slice a1 L2.length c2)) wb B L2:=by
 have hne:∀ x,a1 = some x→x.block ≠ wb∧(x.block < B ∨ w0.heap.size≤x.block):=fun x hx => by
  rw [LU hx] at hat;rcases hat with h | h
  ·cases a0 with
   | none => cases h
   | some y =>
    have:=Option.some.inj h;rw [this];exact hax y rfl
  ·rw [Option.some.inj h];exact ⟨by omega,.inr hN⟩
 have hs1:w0.heap.size≤w1.heap.size:=Nat.le_trans h0r (Nat.le_trans hwm.size hgr.size);refine ⟨a1,c2,by rw [← hcs];exact hb1.set 0 _,ho1.set (fun x hx => (hne x hx).1) hwb _,hwb,hwB,hne,fun k hk1 hk2 => ?_,by simp;exact hs1,hB⟩;rw [heap_setCell_other w1 ⟨wb,0,none⟩ k _ (by show k ≠ wb;omega),hgr.block k (by have:=hwm.size;omega) (fun e => ?_),hwm.block k (by omega),hk k hk1 hk2];cases a0 with
 | none => cases e
 | some y =>
  have h1:=Option.some.inj e;have h2:=(hax y rfl).2;rw [← h1] at h2;omega
theorem Kc (W w0 w:World) (wb B:Nat) (L:List UInt8) (n:Nat) (h:L9 W w0 w wb B L) (hm:L.length≤500000) (hn:n < 9223372036854775808) :
 Calls Tryz.prog 111 #[.pointer (some ⟨wb,0,none⟩),.int .i64 n] w fun e w' => e = .returned (.tuple #[])∧L9 W w0 w' wb B (L ++ BX n):=by
 obtain ⟨i5,hi,hz0,hz1,hz2⟩:=info_parts Tryz.infoU8;have hlen:=EP hn;have h0:=h;replace h:=zH h;replace hlen:=zH hlen;go_enter Tryz.func111,Tryz.ntmps111;go_wp2_with fail;go_loopw [1] (fun nv wr => ∃ (m:Nat) (L':List UInt8),nv = .int .i64 m∧m≤n∧L' ++ BX m = L ++ BX n∧L9 W w0 wr wb B L') (fun nv _ => (intOf nv).toNat);case atStart => exact ⟨n,L,rfl,Nat.le_refl _,rfl,h0⟩
 case round =>
  obtain ⟨m,L',rfl,hmn,heq,hW⟩:=hrel;have hll:L'.length≤500010:=by
   have h1:=congrArg List.length heq;rw [List.length_append,List.length_append] at h1;have:=hlen.out;omega
  obtain ⟨a,c,hb,ho,hwb,hwB,hax,hkp,h0r,hBw⟩:=hW;have c0:=hb.cell (i:=0) (v:=.slice a L'.length c) rfl;have f0:=hb.free 0;have ho0:=ho;obtain ⟨hown,hr,hcn,hbb,g⟩:=ho;have n3:=g.size;have n1:L'.length + 1≤maxLen:=by unfold maxLen;omega
  have n2:(L'.length + 1) * 1≤140737488355328:=by omega
  have hav:=Ps m (by omega);have hq1:m % 128 < 128:=Nat.mod_lt _ (by decide);have hov:=or128 hq1;have hne:∀ q,(Value.slice a L'.length c).ownBlock = some q→q < wr.heap.size∧q ≠ wb:=fun q hq => by
   cases a with
   | none => cases hq
   | some ad => cases hq;exact ⟨ho0.lt rfl,(hax ad rfl).1⟩
  refine Fm ?_ ho0 hkp hr hbb hax hb hne;clear ho0 hkp hr hbb hax hb hne;intro ho0 hkp hr hbb hax hb hne;by_cases hs:m < 128
  ·have hs2:(m:Int)≤127:=by omega
   rw [De hs] at heq;have hrc:=An Bi wr [UInt8.ofNat m] 5 #[.int .u8 (m:Int)] (F6 m (by omega));have hm8:(m:Int) % 256 = m:=by omega
   obtain ⟨L2,hL2⟩:=zE (L' ++ [UInt8.ofNat m]);rw [← hL2] at heq;refine AZ ?_ heq hrc hL2;clear heq hrc hL2;intro heq hrc hL2;go_wp2_with (at_builtin;go_loud (refine AP (k:=1) (enc:=Cq) rfl _ _ 54 rfl W.heap.size 5 i5 _ 1 Tryz.underlying54 hi hz0 hz1 hz2 rfl (by decide) Bi Co (.slice a L'.length c) L' rfl (As hown ((Gr.refl wr).alloc _)) wr.heap.size 1 (UInt8.ofNat (m)) rfl hrc.out n1 n2 (BG n3 _) ?_;intro v1 w1 hown1 hgr1 hat1;have hb1:=(hb.out.alloc (.cells #[.int .u8 (m:Int)] 5)).grown hgr1 (fun e => (hne.out _ e.symm).2 rfl);have hg1:Gr W w1:=(g.alloc _).grown hgr1 (A7 hown);rw [← hL2.out] at hown1;obtain ⟨a1,c2,hv1,ho1⟩:=Own.of hown1 hg1;subst hv1;have c1:=hb1.cell (i:=0) (v:=.slice a L'.length c) rfl;have f1:=hb1.free 0;have z1:=hb1.lt;have hput:=L9.put (w0:=w0) (wr:=wr) (N:=(wr.alloc (.cells #[.int .u8 (m:Int)] 5)).heap.size) hwb hwB hBw hb1 (fun v => rfl) ho1 hat1 (by simp;omega) hax.out hgr1 ((Gr.refl wr).alloc _) hkp.out h0r;refine AZ ?_ hput ho1 hb1;clear hput ho1 hb1;intro hput ho1 hb1;clear hown1 hat1));go_end0;exact ⟨rfl,by rw [← heq.out];exact hput.out⟩
  ·have hs2:¬ (m:Int)≤127:=by omega
   rw [Fc hs] at heq;have hrc:=An Bi wr [UInt8.ofNat (m % 128 + 128)] 5 #[.int .u8 ((m % 128 + 128:Nat):Int)] (F6 (m % 128 + 128) (by omega));rw [show ((m % 128 + 128:Nat):Int) = (m:Int) % 128 + 128 by omega] at hrc hov;rw [show ((m % 128:Nat):Int) = (m:Int) % 128 by omega] at hov;obtain ⟨L2,hL2⟩:=zE (L' ++ [UInt8.ofNat (m % 128 + 128)]);have heq2:L2 ++ BX (m / 128) = L ++ BX n:=by rw [hL2,← heq,List.append_assoc];rfl
   have hdm:(m:Int).fdiv (2 ^ min (Int.toNat 7) IntKind.i64.bits) = ((m / 128:Nat):Int):=by
    rw [Int.fdiv_eq_ediv_of_nonneg _ (by decide)];rfl
   refine B0 ?_ heq heq2 hrc hL2;clear heq heq2 hrc hL2;intro heq heq2 hrc hL2;go_wp2_with (at_builtin;go_loud (refine AP (k:=1) (enc:=Cq) rfl _ _ 54 rfl W.heap.size 5 i5 _ 1 Tryz.underlying54 hi hz0 hz1 hz2 rfl (by decide) Bi Co (.slice a L'.length c) L' rfl (As hown ((Gr.refl wr).alloc _)) wr.heap.size 1 (UInt8.ofNat (m % 128 + 128)) rfl hrc.out n1 n2 (BG n3 _) ?_;intro v1 w1 hown1 hgr1 hat1;have hb1:=(hb.out.alloc (.cells #[.int .u8 ((m:Int) % 128 + 128)] 5)).grown hgr1 (fun e => (hne.out _ e.symm).2 rfl);have hg1:Gr W w1:=(g.alloc _).grown hgr1 (A7 hown);rw [← hL2.out] at hown1;obtain ⟨a1,c2,hv1,ho1⟩:=Own.of hown1 hg1;subst hv1;have c1:=hb1.cell (i:=0) (v:=.slice a L'.length c) rfl;have f1:=hb1.free 0;have z1:=hb1.lt;have hput:=L9.put (w0:=w0) (wr:=wr) (N:=(wr.alloc (.cells #[.int .u8 ((m:Int) % 128 + 128)] 5)).heap.size) hwb hwB hBw hb1 (fun v => rfl) ho1 hat1 (by simp;omega) hax.out hgr1 ((Gr.refl wr).alloc _) hkp.out h0r;refine AZ ?_ hput ho1 hb1;clear hput ho1 hb1;intro hput ho1 hb1;clear hown1 hat1));go_roundw;case rel => exact ⟨m / 128,L2,by go_num,by omega,heq2.out,hput.out⟩
   case measure => simp [intOf];omega
theorem Ew (W w:World) (wb B:Nat) (L:List UInt8) (n:Nat) (h:C8 W w wb B L) (hm:L.length≤500000) (hn:n < 9223372036854775808) :
 Calls Tryz.prog 111 #[.pointer (some ⟨wb,0,none⟩),.int .i64 n] w fun e w' => e = .returned (.tuple #[])∧L9 W w w' wb B (L ++ BX n):=Kc W w w wb B L n h.k hm hn
theorem Az.same {w w':World} {a:Option Addr} {l:List UInt8} (h:Az w a l) (hs:w.heap.size≤w'.heap.size) (hb:∀ x,a = some x→l ≠ []→w'.heap[x.block]? = w.heap[x.block]?):Az w' a l:=by
 intro i s hi;obtain ⟨b,off,ha,hlt,hc⟩:=h i s hi;have h1:w'.heap[b]? = w.heap[b]?:=hb _ ha (fun e => by rw [e] at hi;cases hi);exact ⟨b,off,ha,by omega,fun j u hu => by rw [World.cell?_of_block h1];exact hc j u hu⟩
theorem KQ (W w:World) (wb B:Nat) (L:List UInt8) (a:Option Addr) (c:Nat) (l:List UInt8) (h:C8 W w wb B L) (hm:L.length≤400000) (hs:Az w a l) (hc:a = none→c = 0) (hx:∀ x,a = some x→x.block < W.heap.size ∨ (B≤x.block∧x.block < w.heap.size)) (hl:l.length≤100000) :
 Calls Tryz.prog 114 #[.pointer (some ⟨wb,0,none⟩),.slice a l.length c] w fun e w' => e = .returned (.tuple #[])∧C8 W w' wb w'.heap.size (L ++ BX l.length ++ l):=by
 obtain ⟨i5,hi,hz0,hz1,hz2⟩:=info_parts Tryz.infoU8;have hnum:=Ew W w wb B L l.length h (by omega) (by omega);have hlen:=EP (n:=l.length) (by omega);have hWw:=h.world;obtain ⟨L1,hL1⟩:=zE (L ++ BX l.length);have hll:L1.length≤400010:=by rw [hL1,List.length_append];omega
 rw [← hL1] at hnum ⊢;obtain ⟨L2,hL2⟩:=zE (L1 ++ l);rw [← hL2];have n1:L1.length + l.length≤maxLen:=by unfold maxLen;omega
 have n2:(L1.length + l.length) * 1≤140737488355328:=by omega
 refine Dn ?_ hnum h hs hx hL1 hL2;clear hnum h hs hx hL1 hL2;intro hnum h hs hx hL1 hL2;go_enter Tryz.func114,Tryz.ntmps114;go_wp2_with fail;refine hnum.out.mono ?_;rintro e w1 ⟨rfl,hW⟩;obtain ⟨a1,c1,hb,ho,hwb,hwB,hax,hkp,h0r,hBw⟩:=hW;have c0:=hb.cell (i:=0) (v:=.slice a1 L1.length c1) rfl;have f0:=hb.free 0;have zwb:=hb.lt;have ho0:=ho;obtain ⟨hown,hr,hcn,hbb,g⟩:=ho;have n3:=g.size;have hs1:Az w1 a l:=hs.out.same h0r (fun x hxx _ => by
  rcases hx.out x hxx with h | h
  ·rw [g.block _ h,hWw.block _ h]
  ·exact hkp _ h.1 h.2)
 have hne:∀ q,(Value.slice a1 L1.length c1).ownBlock = some q→q < w1.heap.size∧q ≠ wb:=fun q hq => by
  cases a1 with
  | none => cases hq
  | some ad => cases hq;exact ⟨ho0.lt rfl,(hax ad rfl).1⟩
 refine Br ?_ hr hbb hax hb hne ho0 hkp hs1;clear hr hbb hax hb hne ho0 hkp hs1;intro hr hbb hax hb hne ho0 hkp hs1;go_wp2_with (at_builtin;go_loud (refine FM (k:=1) (enc:=Cq) rfl _ _ 54 rfl W.heap.size 5 i5 _ 1 Tryz.underlying54 hi hz0 hz1 hz2 rfl (by decide) Bi Co (.slice a1 L1.length c1) L1 rfl hown a c l rfl hs1.out hc n1 n2 n3 ?_;intro v1 w2 hown1 hgr1 hat1;have hb1:=hb.out.grown hgr1 (fun e => (hne.out _ e.symm).2 rfl);have hg1:Gr W w2:=g.grown hgr1 (A7 hown);rw [← hL2.out] at hown1;obtain ⟨a2,c2,hv1,ho1⟩:=Own.of hown1 hg1;subst hv1;have c3:=hb1.cell (i:=0) (v:=.slice a1 L1.length c1) rfl;have f1:=hb1.free 0;have z1:=hb1.lt;have hput:=L9.put (wr:=w1) (N:=w1.heap.size) hwb hwB hBw hb1 (fun v => rfl) ho1 hat1 h0r hax.out hgr1 (Gr.refl w1) hkp.out h0r;refine AZ ?_ hput ho1 hb1;clear hput ho1 hb1;intro hput ho1 hb1;clear hown1 hat1));go_end0;exact ⟨rfl,hput.out.at⟩
theorem Own.older {W W1 w:World} {a:Option Addr} {c:Nat} {l:List UInt8} (h:Own W1 w a c l) (g:Gr W W1):Own W w a c l:=by
 obtain ⟨h1,h2,h3,h4,h5⟩:=h;refine ⟨⟨h1.1,?_⟩,h2,h3,fun x hx => Nat.le_trans g.size (h4 x hx),g.trans h5⟩;rcases h1.2 with hn | ⟨b,cap,cur,e1,e2,e3⟩
 ·exact .inl hn
 ·exact .inr ⟨b,cap,cur,e1,Nat.le_trans g.size e2,e3⟩
theorem Lz (w:World) (a:Option Addr) (c:Nat) (l:List UInt8) (h:Az w a l) (hc:a = none→c = 0) (hm:l.length≤1000000) :
 Calls Tryz.prog 189 #[.slice a l.length c] w fun e w' => ∃ a' c',e = .returned (.slice a' l.length c')∧Own w w' a' c' l:=by
 obtain ⟨i5,hi,hz0,hz1,hz2⟩:=info_parts Tryz.infoU8;have hmm:l.length≤maxLen:=by unfold maxLen;omega
 have n2:l.length * 1≤140737488355328:=by omega
 have hnil:=fun (w:World) a n c => Lib.run_eql_slice_nil (P:=Tryz.prog) w 54 5 a n c 0 0 Tryz.underlying54
 cases a with
 | none =>
  obtain rfl:=hc rfl;obtain rfl:l = []:=by
   cases l with
   | nil => rfl
   | cons y r => obtain ⟨b,off,hh,_⟩:=h 0 y rfl;cases hh
  go_enter Tryz.func189,Tryz.ntmps189;go_wp2_with fail;go_ret;exact ⟨none,0,rfl,Own.nil w w (Gr.refl w)⟩
 | some ad =>
  replace h:=zH h;go_enter Tryz.func189,Tryz.ntmps189;go_wp2_with (at_builtin;go_loud (refine Cl (k:=1) (enc:=Cq) rfl _ _ 54 rfl 5 i5 _ 1 Tryz.underlying54 hi hz0 hz1 hz2 rfl (by decide) Bi Co w.heap.size rfl rfl (some ad) c l rfl h.out hc hmm n2 ?_;intro v1 w1 hown g1));obtain ⟨a',c',rfl,ho⟩:=Own.of hown g1;go_wp2_with fail;go_ret;exact ⟨a',c',rfl,ho⟩
theorem HC (W w:World) (wb B:Nat) (L:List UInt8) (h:C8 W w wb B L) (hm:L.length≤1000000) :
 Calls Tryz.prog 119 #[.pointer (some ⟨wb,0,none⟩)] w fun e w' => ∃ a c,e = .returned (.tuple #[.slice a L.length c,.nilIface])∧Own w w' a c L:=by
 obtain ⟨a,c,hb,ho,hwb,hwB,hax,_⟩:=h;obtain ⟨c0,c1⟩:=hb.c2;have hcl:=Lz w a c L ho.2.1 ho.2.2.1 hm;refine AZ ?_ hcl ho hb;clear hcl ho hb;intro hcl ho hb;go_enter Tryz.func119,Tryz.ntmps119;go_wp2_with fail;refine hcl.out.mono ?_;rintro e w1 ⟨a1,c1,rfl,h1⟩;replace h1:=zH h1;go_wp2_with fail;go_ret2;exact ⟨a1,c1,rfl,h1.out⟩
theorem Hu (W w:World) (wb B:Nat) (L:List UInt8) (h:C8 W w wb B L) (hm:L.length≤32768) :
 Calls Tryz.prog 115 #[.pointer (some ⟨wb,0,none⟩)] w fun e w' => ∃ a c,e = .returned (.tuple #[.slice a (Cy L).length c,.nilIface])∧Own w w' a c (Cy L):=by
 have hd:=HC W w wb B L h (by omega);have hf:=fun w1 a c (ho:Own w w1 a c L) => M5 w1 a c L ho.2.1 ho.2.2.1 hm
 refine AZ ?_ hd hf h;clear hd hf h;intro hd hf h;go_enter Tryz.func115,Tryz.ntmps115;go_wp2_with fail;refine hd.out.mono ?_;rintro e w1 ⟨a1,c1,rfl,h1⟩;have h1:=Lib.hid h1;go_wp2_with fail;refine (hf.out w1 a1 c1 h1.out).mono ?_;rintro e w2 ⟨a2,c2,rfl,h2⟩;have h2:=Lib.hid h2;go_wp2_with fail;go_ret2;exact ⟨a2,c2,rfl,h2.out.older h1.out.2.2.2.2⟩
theorem Bv (k:Int) (x:At) (w:World) :
 Calls Tryz.prog 113 #[.agg #[.int .i64 k,.int .i64 x.e.cl,.int .i64 x.e.nu,.int .i64 x.e.kd,.int .i64 x.e.id,.int .i64 x.e.srv.k,.int .i64 x.e.srv.q,.int .i64 x.e.srv.t,.int .i64 x.e.po,.slice x.a x.e.tasks.length x.c,.int .i64 x.e.at_]] w fun e w' => e = .returned (.agg #[.int .i64 x.e.cl,.int .i64 x.e.nu,.int .i64 x.e.kd,.int .i64 x.e.id,.int .i64 x.e.srv.k,.int .i64 x.e.srv.q,.int .i64 x.e.srv.t,.int .i64 x.e.po,.slice x.a x.e.tasks.length x.c,.int .i64 x.e.at_])∧Gr w w':=by
 go_enter Tryz.func113,Tryz.ntmps113;go_wp2;refine bodyPost_ret (v:=.agg #[.int .i64 x.e.cl,.int .i64 x.e.nu,.int .i64 x.e.kd,.int .i64 x.e.id,.int .i64 x.e.srv.k,.int .i64 x.e.srv.q,.int .i64 x.e.srv.t,.int .i64 x.e.po,.slice x.a x.e.tasks.length x.c,.int .i64 x.e.at_]) (by simp [results,Tryz.results113,go_sem]) rfl ⟨rfl,?_⟩;repeat (first | exact Gr.refl _ | apply Gr.alloc | apply Gr.drew | apply Gr.drewN | (refine Gr.setCell ?_ (by simp) _) | (refine Gr.trans ?_ (by assumption)))
theorem A9 (a:Option Addr) (n c:Nat) (w:World) :
 Calls Tryz.prog 222 #[.slice a n c,.slice none 0 0] w fun e w' => e = .returned (.bool (decide (n = 0)))∧w = w':=by
 by_cases hn:n = 0
 ·subst hn;go_enter Tryz.func222,Tryz.ntmps222;go_wp2_with fail;go_loop [13] (fun iv => iv = .int .i64 0) (fun _ => 0);case atStart => rfl
  case round =>
   obtain rfl:=hrel;go_wp2_with fail;go_ret;exact ⟨rfl,rfl⟩
 ·rw [decide_eq_false hn];have h1:((n:Int) == 0) = false:=beq_eq_false_iff_ne.2 (by omega);go_enter Tryz.func222,Tryz.ntmps222;go_wp2_with fail;go_ret;exact ⟨rfl,rfl⟩
def OG (e:Du):Bool:=decide (e.kd = 0) && decide (e.id = 0) && decide (e.srv.k = 0∧e.srv.q = 0∧e.srv.t = 0) && decide (e.po = 0) && decide (e.at_ = 0) && decide (e.tasks.length = 0)
theorem OY (a b:Int) (w:World):(binOp .eql 216 (.agg #[.int .i64 a,.int .i64 b]) (.agg #[.int .i64 a,.int .i64 b])).run Tryz.prog w = .ok (.bool true) w:=by
 simp [go_sem]
theorem Ag.new1 {w:World} {n:Nat} {cs:Array Value} {t:TypeId} (h:w.heap.size = n):Ag (w.alloc (.cells cs t)) n cs t:=by
 subst h;exact Ag.new w cs t
theorem NC (e:Du):OG e = true ↔ e.kd = 0∧e.id = 0∧(e.srv.k = 0∧e.srv.q = 0∧e.srv.t = 0)∧e.po = 0∧e.at_ = 0∧e.tasks.length = 0:=by
 unfold OG;simp only [Bool.and_eq_true,decide_eq_true_iff,and_assoc]
theorem Ic {e:Du} {v:Bool} (hz:Hid (v = OG e)) (h:¬ (e.kd = 0∧e.id = 0∧(e.srv.k = 0∧e.srv.q = 0∧e.srv.t = 0)∧e.po = 0∧e.at_ = 0∧e.tasks.length = 0)):false = v:=by
 rw [hz.out];cases hv:OG e with
 | false => rfl
 | true => exact absurd ((NC e).1 hv) h
theorem Mq (x:At) (w:World) :
 Calls Tryz.prog 186 #[.agg #[.int .i64 x.e.cl,.int .i64 x.e.nu,.int .i64 x.e.kd,.int .i64 x.e.id,.int .i64 x.e.srv.k,.int .i64 x.e.srv.q,.int .i64 x.e.srv.t,.int .i64 x.e.po,.slice x.a x.e.tasks.length x.c,.int .i64 x.e.at_],.agg #[.int .i64 x.e.cl,.int .i64 x.e.nu,.int .i64 0,.int .i64 0,.int .i64 0,.int .i64 0,.int .i64 0,.int .i64 0,.slice none 0 0,.int .i64 0]] w fun e w' => e = .returned (.bool (OG x.e))∧Gr w w':=by
 obtain ⟨v,hz⟩:=zE (OG x.e);rw [← hz];replace hz:=zH hz;go_enter Tryz.func186,Tryz.ntmps186;go_upto_region 1 with fail
 go_cut [5,6] (fun s5 s6 wx => ∃ b5 b6,s5 = .pointer (some ⟨b5,0,none⟩)∧s6 = .pointer (some ⟨b6,0,none⟩)∧Ag wx b5 #[.int .i64 x.e.kd,.int .i64 x.e.id,.int .i64 x.e.srv.k,.int .i64 x.e.srv.q,.int .i64 x.e.srv.t,.int .i64 x.e.po,.slice x.a x.e.tasks.length x.c,.int .i64 x.e.at_] 32∧Ag wx b6 #[.int .i64 0,.int .i64 0,.int .i64 0,.int .i64 0,.int .i64 0,.int .i64 0,.slice none 0 0,.int .i64 0] 32∧Gr ((w.alloc (.cells #[.int .i64 x.e.cl,.int .i64 x.e.nu,.int .i64 x.e.kd,.int .i64 x.e.id,.int .i64 x.e.srv.k,.int .i64 x.e.srv.q,.int .i64 x.e.srv.t,.int .i64 x.e.po,.slice x.a x.e.tasks.length x.c,.int .i64 x.e.at_] 137)).alloc (.cells #[.int .i64 x.e.cl,.int .i64 x.e.nu,.int .i64 0,.int .i64 0,.int .i64 0,.int .i64 0,.int .i64 0,.int .i64 0,.slice none 0 0,.int .i64 0] 137)) wx);case first =>
  go_region;all_goals go_wp2_with fail
  all_goals go_meet
  all_goals refine ⟨_,_,rfl,rfl,?_,?_,?_⟩
  all_goals first | exact (Ag.new1 (by simp)).drew | exact ((Ag.new1 (by simp)).alloc _).drew | exact (by repeat (first | exact Gr.refl _ | apply Gr.alloc | apply Gr.drew | apply Gr.drewN | (refine Gr.setCell ?_ (by first | (simp;done) | (simp;omega)) _) | (refine Gr.trans ?_ (by assumption))))
 case rest =>
  obtain ⟨b5,b6,rfl,rfl,hb5,hb6,g0⟩:=hcut;have g:Gr w wc:=(((Gr.refl w).alloc _).alloc _).trans g0;have hb2:=((Ag.new w #[.int .i64 x.e.cl,.int .i64 x.e.nu,.int .i64 x.e.kd,.int .i64 x.e.id,.int .i64 x.e.srv.k,.int .i64 x.e.srv.q,.int .i64 x.e.srv.t,.int .i64 x.e.po,.slice x.a x.e.tasks.length x.c,.int .i64 x.e.at_] 137).alloc (.cells #[.int .i64 x.e.cl,.int .i64 x.e.nu,.int .i64 0,.int .i64 0,.int .i64 0,.int .i64 0,.int .i64 0,.int .i64 0,.slice none 0 0,.int .i64 0] 137)).gr g0;have hb3:=(Ag.new1 (w:=w.alloc (.cells #[.int .i64 x.e.cl,.int .i64 x.e.nu,.int .i64 x.e.kd,.int .i64 x.e.id,.int .i64 x.e.srv.k,.int .i64 x.e.srv.q,.int .i64 x.e.srv.t,.int .i64 x.e.po,.slice x.a x.e.tasks.length x.c,.int .i64 x.e.at_] 137)) (n:=w.heap.size + 1) (cs:=#[.int .i64 x.e.cl,.int .i64 x.e.nu,.int .i64 0,.int .i64 0,.int .i64 0,.int .i64 0,.int .i64 0,.int .i64 0,.slice none 0 0,.int .i64 0]) (t:=137) (by simp)).gr g0;have z5:=hb5.lt;have z6:=hb6.lt;have z2:=hb2.lt;have z3:=hb3.lt;have p0:=AB.cell (hb5.cell (i:=0) (v:=.int .i64 x.e.kd) rfl);have p1:=AB.cell (hb5.cell (i:=1) (v:=.int .i64 x.e.id) rfl);have p2:=AB.cell (hb5.cell (i:=2) (v:=.int .i64 x.e.srv.k) rfl);have p3:=AB.cell (hb5.cell (i:=3) (v:=.int .i64 x.e.srv.q) rfl);have p4:=AB.cell (hb5.cell (i:=4) (v:=.int .i64 x.e.srv.t) rfl);have p5:=AB.cell (hb5.cell (i:=5) (v:=.int .i64 x.e.po) rfl);have p6:=AB.cell (hb5.cell (i:=6) (v:=.slice x.a x.e.tasks.length x.c) rfl);have p7:=AB.cell (hb5.cell (i:=7) (v:=.int .i64 x.e.at_) rfl);have q0:=AB.cell (hb6.cell (i:=0) (v:=.int .i64 0) rfl);have q1:=AB.cell (hb6.cell (i:=1) (v:=.int .i64 0) rfl);have q2:=AB.cell (hb6.cell (i:=2) (v:=.int .i64 0) rfl);have q3:=AB.cell (hb6.cell (i:=3) (v:=.int .i64 0) rfl);have q4:=AB.cell (hb6.cell (i:=4) (v:=.int .i64 0) rfl);have q5:=AB.cell (hb6.cell (i:=5) (v:=.int .i64 0) rfl);have q6:=AB.cell (hb6.cell (i:=6) (v:=.slice none 0 0) rfl);have q7:=AB.cell (hb6.cell (i:=7) (v:=.int .i64 0) rfl);have r0:=AB.cell (hb2.cell (i:=0) (v:=.int .i64 x.e.cl) rfl);have r1:=AB.cell (hb2.cell (i:=1) (v:=.int .i64 x.e.nu) rfl);have r2:=AB.cell (hb2.cell (i:=2) (v:=.int .i64 x.e.kd) rfl);have r3:=AB.cell (hb2.cell (i:=3) (v:=.int .i64 x.e.id) rfl);have r4:=AB.cell (hb2.cell (i:=4) (v:=.int .i64 x.e.srv.k) rfl);have r5:=AB.cell (hb2.cell (i:=5) (v:=.int .i64 x.e.srv.q) rfl);have r6:=AB.cell (hb2.cell (i:=6) (v:=.int .i64 x.e.srv.t) rfl);have r7:=AB.cell (hb2.cell (i:=7) (v:=.int .i64 x.e.po) rfl);have r8:=AB.cell (hb2.cell (i:=8) (v:=.slice x.a x.e.tasks.length x.c) rfl);have r9:=AB.cell (hb2.cell (i:=9) (v:=.int .i64 x.e.at_) rfl);have s0:=AB.cell (hb3.cell (i:=0) (v:=.int .i64 x.e.cl) rfl);have s1:=AB.cell (hb3.cell (i:=1) (v:=.int .i64 x.e.nu) rfl);have s2:=AB.cell (hb3.cell (i:=2) (v:=.int .i64 0) rfl);have s3:=AB.cell (hb3.cell (i:=3) (v:=.int .i64 0) rfl);have s4:=AB.cell (hb3.cell (i:=4) (v:=.int .i64 0) rfl);have s5:=AB.cell (hb3.cell (i:=5) (v:=.int .i64 0) rfl);have s6:=AB.cell (hb3.cell (i:=6) (v:=.int .i64 0) rfl);have s7:=AB.cell (hb3.cell (i:=7) (v:=.int .i64 0) rfl);have s8:=AB.cell (hb3.cell (i:=8) (v:=.slice none 0 0) rfl);have s9:=AB.cell (hb3.cell (i:=9) (v:=.int .i64 0) rfl);have hky:=fun w => OY x.e.cl x.e.nu w
  have hsv:=fun w => EL x.e.srv ⟨0,0,0⟩ w
  dsimp only at hsv;replace g:=zH g;clear hb2 hb3 hb5 hb6 g0;by_cases hkd:x.e.kd = 0
  ·have tkd:(x.e.kd == 0) = true:=by simpa using hkd
   replace hkd:=zH hkd;by_cases hid:x.e.id = 0
   ·have tid:(x.e.id == 0) = true:=by simpa using hid
    replace hid:=zH hid;by_cases hsv0:(x.e.srv.k = 0∧x.e.srv.q = 0∧x.e.srv.t = 0)
    ·rw [decide_eq_true hsv0] at hsv;replace hsv0:=zH hsv0;by_cases hpo:x.e.po = 0
     ·have tpo:(x.e.po == 0) = true:=by simpa using hpo
      replace hpo:=zH hpo;by_cases hat:x.e.at_ = 0
      ·have tat:(x.e.at_ == 0) = true:=by simpa using hat
       replace hat:=zH hat;have heq:=fun w => A9 x.a x.e.tasks.length x.c w
       by_cases htl:x.e.tasks.length = 0
       ·rw [decide_eq_true htl] at heq;replace htl:=zH htl;replace heq:=zH heq;go_upto_region 2 with fail
        refine Ap (by kernel_rfl) (by kernel_rfl) ?_;repeat (any_goals (first | go_big_quiet_step (first | (exact Calls.grows (AD x _)) | (exact Calls.grows (AD ⟨⟨x.e.cl,x.e.nu,0,0,⟨0,0,0⟩,0,[],0⟩,none,0⟩ _)) | (exact Calls.grows_same (by first | exact heq.out _ | exact A9 x.a x.e.tasks.length x.c _))) | quiet_step (first | (exact Calls.grows (AD x _)) | (exact Calls.grows (AD ⟨⟨x.e.cl,x.e.nu,0,0,⟨0,0,0⟩,0,[],0⟩,none,0⟩ _)) | (exact Calls.grows_same (by first | exact heq.out _ | exact A9 x.a x.e.tasks.length x.c _)))))
        refine wpQuiet_nil ?_;intro wz hwq;have gz:=AB.of hwq;clear hwq;obtain ⟨cz,fz,sz⟩:=gz.cells;try simp only [Aa] at cz fz sz
        try simp only [zL] at cz fz sz
        try simp only [zD] at cz fz sz
        try simp only [zS] at cz fz sz
        go_wp2_with fail;go_ret;exact ⟨C5 ((hz.out.trans ((NC _).2 ⟨hkd.out,hid.out,hsv0.out,hpo.out,hat.out,htl.out⟩)).symm),g.out.trans gz⟩
       ·rw [decide_eq_false htl] at heq;replace htl:=zH htl;replace heq:=zH heq;go_upto_region 2 with fail
        refine Ap (by kernel_rfl) (by kernel_rfl) ?_;repeat (any_goals (first | go_big_quiet_step (first | (exact Calls.grows (AD x _)) | (exact Calls.grows (AD ⟨⟨x.e.cl,x.e.nu,0,0,⟨0,0,0⟩,0,[],0⟩,none,0⟩ _)) | (exact Calls.grows_same (by first | exact heq.out _ | exact A9 x.a x.e.tasks.length x.c _))) | quiet_step (first | (exact Calls.grows (AD x _)) | (exact Calls.grows (AD ⟨⟨x.e.cl,x.e.nu,0,0,⟨0,0,0⟩,0,[],0⟩,none,0⟩ _)) | (exact Calls.grows_same (by first | exact heq.out _ | exact A9 x.a x.e.tasks.length x.c _)))))
        refine wpQuiet_nil ?_;intro wz hwq;have gz:=AB.of hwq;clear hwq;obtain ⟨cz,fz,sz⟩:=gz.cells;try simp only [Aa] at cz fz sz
        try simp only [zL] at cz fz sz
        try simp only [zD] at cz fz sz
        try simp only [zS] at cz fz sz
        go_wp2_with fail;go_ret;exact ⟨C5 (Ic hz (fun h => htl.out h.2.2.2.2.2)),g.out.trans gz⟩
      ·have tat:(x.e.at_ == 0) = false:=by simpa using hat
       replace hat:=zH hat;go_upto_region 2 with fail
       refine Ap (by kernel_rfl) (by kernel_rfl) ?_;repeat (any_goals (first | go_big_quiet_step (first | (exact Calls.grows (AD x _)) | (exact Calls.grows (AD ⟨⟨x.e.cl,x.e.nu,0,0,⟨0,0,0⟩,0,[],0⟩,none,0⟩ _)) | (exact Calls.grows_same (by first | exact heq.out _ | exact A9 x.a x.e.tasks.length x.c _))) | quiet_step (first | (exact Calls.grows (AD x _)) | (exact Calls.grows (AD ⟨⟨x.e.cl,x.e.nu,0,0,⟨0,0,0⟩,0,[],0⟩,none,0⟩ _)) | (exact Calls.grows_same (by first | exact heq.out _ | exact A9 x.a x.e.tasks.length x.c _)))))
       refine wpQuiet_nil ?_;intro wz hwq;have gz:=AB.of hwq;clear hwq;obtain ⟨cz,fz,sz⟩:=gz.cells;try simp only [Aa] at cz fz sz
       try simp only [zL] at cz fz sz
       try simp only [zD] at cz fz sz
       try simp only [zS] at cz fz sz
       go_wp2_with fail;go_ret;exact ⟨C5 (Ic hz (fun h => hat.out h.2.2.2.2.1)),g.out.trans gz⟩
     ·have tpo:(x.e.po == 0) = false:=by simpa using hpo
      replace hpo:=zH hpo;go_upto_region 2 with fail
      refine Ap (by kernel_rfl) (by kernel_rfl) ?_;repeat (any_goals (first | go_big_quiet_step (first | (exact Calls.grows (AD x _)) | (exact Calls.grows (AD ⟨⟨x.e.cl,x.e.nu,0,0,⟨0,0,0⟩,0,[],0⟩,none,0⟩ _)) | (exact Calls.grows_same (by first | exact heq.out _ | exact A9 x.a x.e.tasks.length x.c _))) | quiet_step (first | (exact Calls.grows (AD x _)) | (exact Calls.grows (AD ⟨⟨x.e.cl,x.e.nu,0,0,⟨0,0,0⟩,0,[],0⟩,none,0⟩ _)) | (exact Calls.grows_same (by first | exact heq.out _ | exact A9 x.a x.e.tasks.length x.c _)))))
      refine wpQuiet_nil ?_;intro wz hwq;have gz:=AB.of hwq;clear hwq;obtain ⟨cz,fz,sz⟩:=gz.cells;try simp only [Aa] at cz fz sz
      try simp only [zL] at cz fz sz
      try simp only [zD] at cz fz sz
      try simp only [zS] at cz fz sz
      go_wp2_with fail;go_ret;exact ⟨C5 (Ic hz (fun h => hpo.out h.2.2.2.1)),g.out.trans gz⟩
    ·rw [decide_eq_false hsv0] at hsv;replace hsv0:=zH hsv0;go_upto_region 2 with fail
     refine Ap (by kernel_rfl) (by kernel_rfl) ?_;repeat (any_goals (first | go_big_quiet_step (first | (exact Calls.grows (AD x _)) | (exact Calls.grows (AD ⟨⟨x.e.cl,x.e.nu,0,0,⟨0,0,0⟩,0,[],0⟩,none,0⟩ _)) | (exact Calls.grows_same (by first | exact heq.out _ | exact A9 x.a x.e.tasks.length x.c _))) | quiet_step (first | (exact Calls.grows (AD x _)) | (exact Calls.grows (AD ⟨⟨x.e.cl,x.e.nu,0,0,⟨0,0,0⟩,0,[],0⟩,none,0⟩ _)) | (exact Calls.grows_same (by first | exact heq.out _ | exact A9 x.a x.e.tasks.length x.c _)))))
     refine wpQuiet_nil ?_;intro wz hwq;have gz:=AB.of hwq;clear hwq;obtain ⟨cz,fz,sz⟩:=gz.cells;try simp only [Aa] at cz fz sz
     try simp only [zL] at cz fz sz
     try simp only [zD] at cz fz sz
     try simp only [zS] at cz fz sz
     go_wp2_with fail;go_ret;exact ⟨C5 (Ic hz (fun h => hsv0.out h.2.2.1)),g.out.trans gz⟩
   ·have tid:(x.e.id == 0) = false:=by simpa using hid
    replace hid:=zH hid;go_upto_region 2 with fail
    refine Ap (by kernel_rfl) (by kernel_rfl) ?_;repeat (any_goals (first | go_big_quiet_step (first | (exact Calls.grows (AD x _)) | (exact Calls.grows (AD ⟨⟨x.e.cl,x.e.nu,0,0,⟨0,0,0⟩,0,[],0⟩,none,0⟩ _)) | (exact Calls.grows_same (by first | exact heq.out _ | exact A9 x.a x.e.tasks.length x.c _))) | quiet_step (first | (exact Calls.grows (AD x _)) | (exact Calls.grows (AD ⟨⟨x.e.cl,x.e.nu,0,0,⟨0,0,0⟩,0,[],0⟩,none,0⟩ _)) | (exact Calls.grows_same (by first | exact heq.out _ | exact A9 x.a x.e.tasks.length x.c _)))))
    refine wpQuiet_nil ?_;intro wz hwq;have gz:=AB.of hwq;clear hwq;obtain ⟨cz,fz,sz⟩:=gz.cells;try simp only [Aa] at cz fz sz
    try simp only [zL] at cz fz sz
    try simp only [zD] at cz fz sz
    try simp only [zS] at cz fz sz
    go_wp2_with fail;go_ret;exact ⟨C5 (Ic hz (fun h => hid.out h.2.1)),g.out.trans gz⟩
  ·have tkd:(x.e.kd == 0) = false:=by simpa using hkd
   replace hkd:=zH hkd;go_upto_region 2 with fail
   refine Ap (by kernel_rfl) (by kernel_rfl) ?_;repeat (any_goals (first | go_big_quiet_step (first | (exact Calls.grows (AD x _)) | (exact Calls.grows (AD ⟨⟨x.e.cl,x.e.nu,0,0,⟨0,0,0⟩,0,[],0⟩,none,0⟩ _)) | (exact Calls.grows_same (by first | exact heq.out _ | exact A9 x.a x.e.tasks.length x.c _))) | quiet_step (first | (exact Calls.grows (AD x _)) | (exact Calls.grows (AD ⟨⟨x.e.cl,x.e.nu,0,0,⟨0,0,0⟩,0,[],0⟩,none,0⟩ _)) | (exact Calls.grows_same (by first | exact heq.out _ | exact A9 x.a x.e.tasks.length x.c _)))))
   refine wpQuiet_nil ?_;intro wz hwq;have gz:=AB.of hwq;clear hwq;obtain ⟨cz,fz,sz⟩:=gz.cells;try simp only [Aa] at cz fz sz
   try simp only [zL] at cz fz sz
   try simp only [zD] at cz fz sz
   try simp only [zS] at cz fz sz
   go_wp2_with fail;go_ret;exact ⟨C5 (Ic hz (fun h => hkd.out h.1)),g.out.trans gz⟩
def HO (k:Int) (e:Du):Bool:=(decide (k = 1) && FC e) || (decide (k = 2) && OG e && decide (0≤e.cl∧e.cl < 16∧1≤e.nu∧e.nu≤1099511627776))
theorem Jq {G:List Nat} {E:Nat→Addr} (k:Int) (x:At) (w:World) (h:x.ok Any w) (hE:CK G E w) (i0:15 ∈ G) :
 Calls Tryz.prog 109 #[.agg #[.int .i64 k,.int .i64 x.e.cl,.int .i64 x.e.nu,.int .i64 x.e.kd,.int .i64 x.e.id,.int .i64 x.e.srv.k,.int .i64 x.e.srv.q,.int .i64 x.e.srv.t,.int .i64 x.e.po,.slice x.a x.e.tasks.length x.c,.int .i64 x.e.at_]] w fun e w' => e = .returned (Om E (HO k x.e))∧Gr w w':=by
 by_cases h1:k = 1
 ·subst h1;have hv:Om E (HO 1 x.e) = Om E (FC x.e):=by unfold HO;simp
  rw [hv];have hch:=fun w' (g:Gr w w') => IQ x w' (h.gr g) (hE.gr g) i0
  generalize Om E (FC x.e) = v at *;refine AZ ?_ hch hv h;clear hch hv h;intro hch hv h;go_enter Tryz.func109,Tryz.ntmps109;go_wp2_with fail;refine (Bv 1 x _).mono ?_;rintro e wa ⟨rfl,ga⟩;obtain ⟨ca,fa,sa⟩:=ga.cells;try simp only [Aa] at ca fa sa
  try simp only [zL] at ca fa sa
  try simp only [zD] at ca fa sa
  try simp only [zS] at ca fa sa
  go_wp2_with fail;go_wp2_with fail;refine (hch.out _ (((Gr.refl w).alloc _).trans ga)).mono ?_;rintro e wb ⟨rfl,gb⟩;obtain ⟨cb,fb,sb⟩:=gb.cells;try simp only [Aa] at cb fb sb
  try simp only [zL] at cb fb sb
  try simp only [zD] at cb fb sb
  try simp only [zS] at cb fb sb
  go_wp2_with fail;go_ret;exact ⟨rfl,(((Gr.refl w).alloc _).trans ga).trans gb⟩
 ·have t1:(k == 1) = false:=by simpa using h1
  by_cases h2:k = 2
  ·subst h2;have hv:HO 2 x.e = (OG x.e && decide (0≤x.e.cl∧x.e.cl < 16∧1≤x.e.nu∧x.e.nu≤1099511627776)):=by unfold HO;simp
   rw [hv];have hsm:=fun w => Mq x w
   clear h1 h hv;cases hz:OG x.e with
   | false =>
    rw [hz] at hsm;rw [Bool.false_and];replace hsm:=zH hsm;replace hz:=zH hz;go_enter Tryz.func109,Tryz.ntmps109;go_upto_region 5 with fail
    have hb:=Ag.new w #[.int .i64 2,.int .i64 x.e.cl,.int .i64 x.e.nu,.int .i64 x.e.kd,.int .i64 x.e.id,.int .i64 x.e.srv.k,.int .i64 x.e.srv.q,.int .i64 x.e.srv.t,.int .i64 x.e.po,.slice x.a x.e.tasks.length x.c,.int .i64 x.e.at_] 47;have q0:=AB.cell (hb.cell (i:=0) (v:=.int .i64 2) rfl);have q1:=AB.cell (hb.cell (i:=1) (v:=.int .i64 x.e.cl) rfl);have q2:=AB.cell (hb.cell (i:=2) (v:=.int .i64 x.e.nu) rfl);have q3:=AB.cell (hb.cell (i:=3) (v:=.int .i64 x.e.kd) rfl);have q4:=AB.cell (hb.cell (i:=4) (v:=.int .i64 x.e.id) rfl);have q5:=AB.cell (hb.cell (i:=5) (v:=.int .i64 x.e.srv.k) rfl);have q6:=AB.cell (hb.cell (i:=6) (v:=.int .i64 x.e.srv.q) rfl);have q7:=AB.cell (hb.cell (i:=7) (v:=.int .i64 x.e.srv.t) rfl);have q8:=AB.cell (hb.cell (i:=8) (v:=.int .i64 x.e.po) rfl);have q9:=AB.cell (hb.cell (i:=9) (v:=.slice x.a x.e.tasks.length x.c) rfl);have q10:=AB.cell (hb.cell (i:=10) (v:=.int .i64 x.e.at_) rfl);refine Ap (by kernel_rfl) (by kernel_rfl) ?_;repeat (any_goals (first | go_big_quiet_step (first | (exact Calls.grows (Bv 2 x _)) | (exact Calls.grows (hsm.out _))) | quiet_step (first | (exact Calls.grows (Bv 2 x _)) | (exact Calls.grows (hsm.out _)))))
    refine wpQuiet_nil ?_;intro wz hwq;have gz:=AB.of hwq;clear hwq;obtain ⟨cz,fz,sz⟩:=gz.cells;try simp only [Aa] at cz fz sz
    try simp only [zL] at cz fz sz
    try simp only [zD] at cz fz sz
    try simp only [zS] at cz fz sz
    have zz0:w.heap.size < wz.heap.size:=by omega
    have yz0:w.heap.size≤wz.heap.size:=by omega
    have kz0:=fun o => cz (w.heap.size) o (by omega)
    have jz0:=fun o => fz (w.heap.size) o (by omega)
    have he:=(hE.gr (((Gr.refl w).alloc _).trans gz)).c0 i0;clear cz fz;go_wp2_with fail;go_ret;exact ⟨rfl,((Gr.refl w).alloc _).trans gz⟩
   | true =>
    rw [hz] at hsm;rw [Bool.true_and];replace hsm:=zH hsm;replace hz:=zH hz;by_cases n1:0≤x.e.cl
    ·by_cases n2:x.e.cl < 16
     ·by_cases n3:1≤x.e.nu
      ·by_cases n4:x.e.nu≤1099511627776
       ·rw [decide_eq_true (show 0≤x.e.cl∧x.e.cl < 16∧1≤x.e.nu∧x.e.nu≤1099511627776 from ⟨n1,n2,n3,n4⟩)];go_enter Tryz.func109,Tryz.ntmps109;go_upto_region 5 with fail
        have hb:=Ag.new w #[.int .i64 2,.int .i64 x.e.cl,.int .i64 x.e.nu,.int .i64 x.e.kd,.int .i64 x.e.id,.int .i64 x.e.srv.k,.int .i64 x.e.srv.q,.int .i64 x.e.srv.t,.int .i64 x.e.po,.slice x.a x.e.tasks.length x.c,.int .i64 x.e.at_] 47;have q0:=AB.cell (hb.cell (i:=0) (v:=.int .i64 2) rfl);have q1:=AB.cell (hb.cell (i:=1) (v:=.int .i64 x.e.cl) rfl);have q2:=AB.cell (hb.cell (i:=2) (v:=.int .i64 x.e.nu) rfl);have q3:=AB.cell (hb.cell (i:=3) (v:=.int .i64 x.e.kd) rfl);have q4:=AB.cell (hb.cell (i:=4) (v:=.int .i64 x.e.id) rfl);have q5:=AB.cell (hb.cell (i:=5) (v:=.int .i64 x.e.srv.k) rfl);have q6:=AB.cell (hb.cell (i:=6) (v:=.int .i64 x.e.srv.q) rfl);have q7:=AB.cell (hb.cell (i:=7) (v:=.int .i64 x.e.srv.t) rfl);have q8:=AB.cell (hb.cell (i:=8) (v:=.int .i64 x.e.po) rfl);have q9:=AB.cell (hb.cell (i:=9) (v:=.slice x.a x.e.tasks.length x.c) rfl);have q10:=AB.cell (hb.cell (i:=10) (v:=.int .i64 x.e.at_) rfl);refine Ap (by kernel_rfl) (by kernel_rfl) ?_;repeat (any_goals (first | go_big_quiet_step (first | (exact Calls.grows (Bv 2 x _)) | (exact Calls.grows (hsm.out _))) | quiet_step (first | (exact Calls.grows (Bv 2 x _)) | (exact Calls.grows (hsm.out _)))))
        refine wpQuiet_nil ?_;intro wz hwq;have gz:=AB.of hwq;clear hwq;obtain ⟨cz,fz,sz⟩:=gz.cells;try simp only [Aa] at cz fz sz
        try simp only [zL] at cz fz sz
        try simp only [zD] at cz fz sz
        try simp only [zS] at cz fz sz
        have zz0:w.heap.size < wz.heap.size:=by omega
        have yz0:w.heap.size≤wz.heap.size:=by omega
        have kz0:=fun o => cz (w.heap.size) o (by omega)
        have jz0:=fun o => fz (w.heap.size) o (by omega)
        have he:=(hE.gr (((Gr.refl w).alloc _).trans gz)).c0 i0;clear cz fz;go_wp2_with fail;go_ret;exact ⟨rfl,((Gr.refl w).alloc _).trans gz⟩
       ·rw [decide_eq_false (show ¬ (0≤x.e.cl∧x.e.cl < 16∧1≤x.e.nu∧x.e.nu≤1099511627776) from fun e => n4 e.2.2.2)];go_enter Tryz.func109,Tryz.ntmps109;go_upto_region 5 with fail
        have hb:=Ag.new w #[.int .i64 2,.int .i64 x.e.cl,.int .i64 x.e.nu,.int .i64 x.e.kd,.int .i64 x.e.id,.int .i64 x.e.srv.k,.int .i64 x.e.srv.q,.int .i64 x.e.srv.t,.int .i64 x.e.po,.slice x.a x.e.tasks.length x.c,.int .i64 x.e.at_] 47;have q0:=AB.cell (hb.cell (i:=0) (v:=.int .i64 2) rfl);have q1:=AB.cell (hb.cell (i:=1) (v:=.int .i64 x.e.cl) rfl);have q2:=AB.cell (hb.cell (i:=2) (v:=.int .i64 x.e.nu) rfl);have q3:=AB.cell (hb.cell (i:=3) (v:=.int .i64 x.e.kd) rfl);have q4:=AB.cell (hb.cell (i:=4) (v:=.int .i64 x.e.id) rfl);have q5:=AB.cell (hb.cell (i:=5) (v:=.int .i64 x.e.srv.k) rfl);have q6:=AB.cell (hb.cell (i:=6) (v:=.int .i64 x.e.srv.q) rfl);have q7:=AB.cell (hb.cell (i:=7) (v:=.int .i64 x.e.srv.t) rfl);have q8:=AB.cell (hb.cell (i:=8) (v:=.int .i64 x.e.po) rfl);have q9:=AB.cell (hb.cell (i:=9) (v:=.slice x.a x.e.tasks.length x.c) rfl);have q10:=AB.cell (hb.cell (i:=10) (v:=.int .i64 x.e.at_) rfl);refine Ap (by kernel_rfl) (by kernel_rfl) ?_;repeat (any_goals (first | go_big_quiet_step (first | (exact Calls.grows (Bv 2 x _)) | (exact Calls.grows (hsm.out _))) | quiet_step (first | (exact Calls.grows (Bv 2 x _)) | (exact Calls.grows (hsm.out _)))))
        refine wpQuiet_nil ?_;intro wz hwq;have gz:=AB.of hwq;clear hwq;obtain ⟨cz,fz,sz⟩:=gz.cells;try simp only [Aa] at cz fz sz
        try simp only [zL] at cz fz sz
        try simp only [zD] at cz fz sz
        try simp only [zS] at cz fz sz
        have zz0:w.heap.size < wz.heap.size:=by omega
        have yz0:w.heap.size≤wz.heap.size:=by omega
        have kz0:=fun o => cz (w.heap.size) o (by omega)
        have jz0:=fun o => fz (w.heap.size) o (by omega)
        have he:=(hE.gr (((Gr.refl w).alloc _).trans gz)).c0 i0;clear cz fz;go_wp2_with fail;go_ret;exact ⟨rfl,((Gr.refl w).alloc _).trans gz⟩
      ·rw [decide_eq_false (show ¬ (0≤x.e.cl∧x.e.cl < 16∧1≤x.e.nu∧x.e.nu≤1099511627776) from fun e => n3 e.2.2.1)];go_enter Tryz.func109,Tryz.ntmps109;go_upto_region 5 with fail
       have hb:=Ag.new w #[.int .i64 2,.int .i64 x.e.cl,.int .i64 x.e.nu,.int .i64 x.e.kd,.int .i64 x.e.id,.int .i64 x.e.srv.k,.int .i64 x.e.srv.q,.int .i64 x.e.srv.t,.int .i64 x.e.po,.slice x.a x.e.tasks.length x.c,.int .i64 x.e.at_] 47;have q0:=AB.cell (hb.cell (i:=0) (v:=.int .i64 2) rfl);have q1:=AB.cell (hb.cell (i:=1) (v:=.int .i64 x.e.cl) rfl);have q2:=AB.cell (hb.cell (i:=2) (v:=.int .i64 x.e.nu) rfl);have q3:=AB.cell (hb.cell (i:=3) (v:=.int .i64 x.e.kd) rfl);have q4:=AB.cell (hb.cell (i:=4) (v:=.int .i64 x.e.id) rfl);have q5:=AB.cell (hb.cell (i:=5) (v:=.int .i64 x.e.srv.k) rfl);have q6:=AB.cell (hb.cell (i:=6) (v:=.int .i64 x.e.srv.q) rfl);have q7:=AB.cell (hb.cell (i:=7) (v:=.int .i64 x.e.srv.t) rfl);have q8:=AB.cell (hb.cell (i:=8) (v:=.int .i64 x.e.po) rfl);have q9:=AB.cell (hb.cell (i:=9) (v:=.slice x.a x.e.tasks.length x.c) rfl);have q10:=AB.cell (hb.cell (i:=10) (v:=.int .i64 x.e.at_) rfl);refine Ap (by kernel_rfl) (by kernel_rfl) ?_;repeat (any_goals (first | go_big_quiet_step (first | (exact Calls.grows (Bv 2 x _)) | (exact Calls.grows (hsm.out _))) | quiet_step (first | (exact Calls.grows (Bv 2 x _)) | (exact Calls.grows (hsm.out _)))))
       refine wpQuiet_nil ?_;intro wz hwq;have gz:=AB.of hwq;clear hwq;obtain ⟨cz,fz,sz⟩:=gz.cells;try simp only [Aa] at cz fz sz
       try simp only [zL] at cz fz sz
       try simp only [zD] at cz fz sz
       try simp only [zS] at cz fz sz
       have zz0:w.heap.size < wz.heap.size:=by omega
       have yz0:w.heap.size≤wz.heap.size:=by omega
       have kz0:=fun o => cz (w.heap.size) o (by omega)
       have jz0:=fun o => fz (w.heap.size) o (by omega)
       have he:=(hE.gr (((Gr.refl w).alloc _).trans gz)).c0 i0;clear cz fz;go_wp2_with fail;go_ret;exact ⟨rfl,((Gr.refl w).alloc _).trans gz⟩
     ·rw [decide_eq_false (show ¬ (0≤x.e.cl∧x.e.cl < 16∧1≤x.e.nu∧x.e.nu≤1099511627776) from fun e => n2 e.2.1)];go_enter Tryz.func109,Tryz.ntmps109;go_upto_region 5 with fail
      have hb:=Ag.new w #[.int .i64 2,.int .i64 x.e.cl,.int .i64 x.e.nu,.int .i64 x.e.kd,.int .i64 x.e.id,.int .i64 x.e.srv.k,.int .i64 x.e.srv.q,.int .i64 x.e.srv.t,.int .i64 x.e.po,.slice x.a x.e.tasks.length x.c,.int .i64 x.e.at_] 47;have q0:=AB.cell (hb.cell (i:=0) (v:=.int .i64 2) rfl);have q1:=AB.cell (hb.cell (i:=1) (v:=.int .i64 x.e.cl) rfl);have q2:=AB.cell (hb.cell (i:=2) (v:=.int .i64 x.e.nu) rfl);have q3:=AB.cell (hb.cell (i:=3) (v:=.int .i64 x.e.kd) rfl);have q4:=AB.cell (hb.cell (i:=4) (v:=.int .i64 x.e.id) rfl);have q5:=AB.cell (hb.cell (i:=5) (v:=.int .i64 x.e.srv.k) rfl);have q6:=AB.cell (hb.cell (i:=6) (v:=.int .i64 x.e.srv.q) rfl);have q7:=AB.cell (hb.cell (i:=7) (v:=.int .i64 x.e.srv.t) rfl);have q8:=AB.cell (hb.cell (i:=8) (v:=.int .i64 x.e.po) rfl);have q9:=AB.cell (hb.cell (i:=9) (v:=.slice x.a x.e.tasks.length x.c) rfl);have q10:=AB.cell (hb.cell (i:=10) (v:=.int .i64 x.e.at_) rfl);refine Ap (by kernel_rfl) (by kernel_rfl) ?_;repeat (any_goals (first | go_big_quiet_step (first | (exact Calls.grows (Bv 2 x _)) | (exact Calls.grows (hsm.out _))) | quiet_step (first | (exact Calls.grows (Bv 2 x _)) | (exact Calls.grows (hsm.out _)))))
      refine wpQuiet_nil ?_;intro wz hwq;have gz:=AB.of hwq;clear hwq;obtain ⟨cz,fz,sz⟩:=gz.cells;try simp only [Aa] at cz fz sz
      try simp only [zL] at cz fz sz
      try simp only [zD] at cz fz sz
      try simp only [zS] at cz fz sz
      have zz0:w.heap.size < wz.heap.size:=by omega
      have yz0:w.heap.size≤wz.heap.size:=by omega
      have kz0:=fun o => cz (w.heap.size) o (by omega)
      have jz0:=fun o => fz (w.heap.size) o (by omega)
      have he:=(hE.gr (((Gr.refl w).alloc _).trans gz)).c0 i0;clear cz fz;go_wp2_with fail;go_ret;exact ⟨rfl,((Gr.refl w).alloc _).trans gz⟩
    ·rw [decide_eq_false (show ¬ (0≤x.e.cl∧x.e.cl < 16∧1≤x.e.nu∧x.e.nu≤1099511627776) from fun e => n1 e.1)];go_enter Tryz.func109,Tryz.ntmps109;go_upto_region 5 with fail
     have hb:=Ag.new w #[.int .i64 2,.int .i64 x.e.cl,.int .i64 x.e.nu,.int .i64 x.e.kd,.int .i64 x.e.id,.int .i64 x.e.srv.k,.int .i64 x.e.srv.q,.int .i64 x.e.srv.t,.int .i64 x.e.po,.slice x.a x.e.tasks.length x.c,.int .i64 x.e.at_] 47;have q0:=AB.cell (hb.cell (i:=0) (v:=.int .i64 2) rfl);have q1:=AB.cell (hb.cell (i:=1) (v:=.int .i64 x.e.cl) rfl);have q2:=AB.cell (hb.cell (i:=2) (v:=.int .i64 x.e.nu) rfl);have q3:=AB.cell (hb.cell (i:=3) (v:=.int .i64 x.e.kd) rfl);have q4:=AB.cell (hb.cell (i:=4) (v:=.int .i64 x.e.id) rfl);have q5:=AB.cell (hb.cell (i:=5) (v:=.int .i64 x.e.srv.k) rfl);have q6:=AB.cell (hb.cell (i:=6) (v:=.int .i64 x.e.srv.q) rfl);have q7:=AB.cell (hb.cell (i:=7) (v:=.int .i64 x.e.srv.t) rfl);have q8:=AB.cell (hb.cell (i:=8) (v:=.int .i64 x.e.po) rfl);have q9:=AB.cell (hb.cell (i:=9) (v:=.slice x.a x.e.tasks.length x.c) rfl);have q10:=AB.cell (hb.cell (i:=10) (v:=.int .i64 x.e.at_) rfl);refine Ap (by kernel_rfl) (by kernel_rfl) ?_;repeat (any_goals (first | go_big_quiet_step (first | (exact Calls.grows (Bv 2 x _)) | (exact Calls.grows (hsm.out _))) | quiet_step (first | (exact Calls.grows (Bv 2 x _)) | (exact Calls.grows (hsm.out _)))))
     refine wpQuiet_nil ?_;intro wz hwq;have gz:=AB.of hwq;clear hwq;obtain ⟨cz,fz,sz⟩:=gz.cells;try simp only [Aa] at cz fz sz
     try simp only [zL] at cz fz sz
     try simp only [zD] at cz fz sz
     try simp only [zS] at cz fz sz
     have zz0:w.heap.size < wz.heap.size:=by omega
     have yz0:w.heap.size≤wz.heap.size:=by omega
     have kz0:=fun o => cz (w.heap.size) o (by omega)
     have jz0:=fun o => fz (w.heap.size) o (by omega)
     have he:=(hE.gr (((Gr.refl w).alloc _).trans gz)).c0 i0;clear cz fz;go_wp2_with fail;go_ret;exact ⟨rfl,((Gr.refl w).alloc _).trans gz⟩
  ·have t2:(k == 2) = false:=by simpa using h2
   have hv:HO k x.e = false:=by unfold HO;rw [decide_eq_false h1,decide_eq_false h2];rfl
   rw [hv];have he:=(hE.gr ((Gr.refl w).alloc (.cells #[.int .i64 k,.int .i64 x.e.cl,.int .i64 x.e.nu,.int .i64 x.e.kd,.int .i64 x.e.id,.int .i64 x.e.srv.k,.int .i64 x.e.srv.q,.int .i64 x.e.srv.t,.int .i64 x.e.po,.slice x.a x.e.tasks.length x.c,.int .i64 x.e.at_] 47))).c0 i0;replace h:=zH h;replace hv:=zH hv;go_enter Tryz.func109,Tryz.ntmps109;go_wp2_with fail;go_ret;exact ⟨rfl,(Gr.refl w).alloc _⟩
def B1 (t:AA):List Int:=[t.c,t.p,t.d,t.s]
def CJ (e:Du):List Int:=[e.cl,e.nu,e.kd,e.at_,e.id,e.srv.k,e.srv.q,e.srv.t,e.po,(e.tasks.length:Int)]
def EY (e:Du):List Int:=CJ e ++ e.tasks.flatMap B1
def AM (l:List Int):List UInt8:=l.flatMap fun n => BX n.toNat
theorem CO (l:List Int) (n:Int):AM (l ++ [n]) = AM l ++ BX n.toNat:=by simp [AM]
def LE (l:List Int):Prop:=∀ n ∈ l,0≤n∧n≤1099511627776
theorem B8:∀ {l:List Int},LE l→(AM l).length≤6 * l.length
 | [],_ => by simp [AM]
 | n :: l,h => by
  have h1:=B8 (l:=l) (fun x hx => h x (List.mem_cons_of_mem _ hx));have h2:=h n (List.mem_cons_self ..);have h3:=Pn (n:=n.toNat) (by omega);rw [show AM (n :: l) = BX n.toNat ++ AM l from rfl,List.length_append,List.length_cons];omega
theorem ES {e:Du} (h:FC e = true):e.tasks.length≤8∧∀ t ∈ e.tasks,Eo t = true:=by
 unfold FC Gk at h;simp only [Bool.and_eq_true] at h;obtain ⟨-,-,h⟩:=h;split at h
 ·simp only [Bool.and_eq_true,decide_eq_true_iff] at h;rw [h.1.2];exact ⟨by simp,fun t ht => by cases ht⟩
 ·split at h
  ·simp only [Bool.and_eq_true,decide_eq_true_iff] at h;rw [h.1.2];exact ⟨by simp,fun t ht => by cases ht⟩
  ·split at h
   ·simp only [Bool.and_eq_true,decide_eq_true_iff] at h;exact ⟨h.1.2,fun t ht => List.all_eq_true.1 h.2 t ht⟩
   ·cases h
theorem Kt {e:Du} (h:FC e = true):LE (CJ e):=by
 have ht:=(ES h).1;unfold FC Gk at h;simp only [Bool.and_eq_true,decide_eq_true_iff,EO] at h;obtain ⟨⟨h1,h2,h3,h4⟩,⟨⟨h5,h6⟩,h7,h8⟩,h⟩:=h;have hs:(0≤e.srv.k∧e.srv.k≤1099511627776)∧(0≤e.srv.q∧e.srv.q≤1099511627776)∧(0≤e.srv.t∧e.srv.t≤1099511627776)∧(0≤e.po∧e.po≤1099511627776)∧0≤e.kd∧e.kd≤1099511627776:=by
  split at h
  ·simp only [Bool.and_eq_true,decide_eq_true_iff,EO] at h;omega
  ·split at h
   ·simp only [Bool.and_eq_true,decide_eq_true_iff] at h;omega
   ·split at h
    ·simp only [Bool.and_eq_true,decide_eq_true_iff,EO] at h;omega
    ·cases h
 intro n hn;simp only [CJ,List.mem_cons,List.not_mem_nil,or_false] at hn;rcases hn with rfl | rfl | rfl | rfl | rfl | rfl | rfl | rfl | rfl | rfl <;> omega
theorem Fq {t:AA} (h:Eo t = true):LE (B1 t):=by
 unfold Eo at h;simp only [Bool.and_eq_true,EO] at h;intro n hn;simp only [B1,List.mem_cons,List.not_mem_nil,or_false] at hn;rcases hn with rfl | rfl | rfl | rfl <;> omega
theorem DD (l:List AA):(l.flatMap B1).length = l.length * 4:=by
 induction l with
 | nil => rfl
 | cons t l ih =>
  rw [List.flatMap_cons,List.length_append,ih,List.length_cons];have:(B1 t).length = 4:=rfl;omega
theorem GO {t:TypeId} {n:Nat} {cs:Array Value} {k:Nat} {v:Int} (w:World) (h:Tryz.prog.underlying t = some (.array n 3)) (hk:k < n) (hv:cs[k]? = some (.int .i64 v)):(Instr.index t (.agg cs) (.int .i64 k)).run Tryz.prog w = .ok (.int .i64 v) w:=by
 have h1:(0:Int)≤(k:Int)∧(k:Int) < (n:Int):=by omega
 simp [Instr.index,run_underlying h,asIntOf,h1,hv,go_sem];omega
theorem C7 (w:World) {n:Nat} (hn:w.heap.size = n):Calls Tryz.prog 110 #[] w fun e w' => e = .returned (.pointer (some ⟨n,0,none⟩))∧C8 w w' n w'.heap.size []:=by
 subst hn;exact H5 w
theorem OR {G:List Nat} {E:Nat→Addr} (e:Du) (a:Option Addr) (c:Nat) (w:World) (h:(⟨e,a,c⟩:At).ok Any w) (hE:CK G E w) (i0:15 ∈ G) (hf:FC e = true) :
 Calls Tryz.prog 112 #[.agg #[.int .i64 e.cl,.int .i64 e.nu,.int .i64 e.kd,.int .i64 e.id,.int .i64 e.srv.k,.int .i64 e.srv.q,.int .i64 e.srv.t,.int .i64 e.po,.slice a e.tasks.length c,.int .i64 e.at_]] w fun r w' => ∃ a' c',r = .returned (.tuple #[.slice a' (AM (EY e)).length c',.nilIface])∧Own w w' a' c' (AM (EY e)):=by
 have hck:=fun w' (g:Gr w w') => IQ ⟨e,a,c⟩ w' (h.gr g) (hE.gr g) i0
 dsimp only at hck;rw [hf] at hck;have hck2:∀ w',Gr w w'→Calls Tryz.prog 185 #[.agg #[.int .i64 e.cl,.int .i64 e.nu,.int .i64 e.kd,.int .i64 e.id,.int .i64 e.srv.k,.int .i64 e.srv.q,.int .i64 e.srv.t,.int .i64 e.po,.slice a e.tasks.length c,.int .i64 e.at_]] w' fun e w'' => e = .returned .nilIface∧Gr w' w'':=hck
 have hhd:=Kt hf;obtain ⟨ht8,htk⟩:=ES hf;obtain ⟨⟨htr,-⟩,-⟩:=h;dsimp only at htr;refine DT ?_ hck2 hhd htk hf htr;clear hck2 hhd htk hf htr;intro hck2 hhd htk hf htr;clear hck;go_enter Tryz.func112,Tryz.ntmps112;go_wp2_with fail;refine (hck2.out _ ((Gr.refl w).alloc _)).mono ?_;rintro e wa ⟨rfl,ga⟩;obtain ⟨ca,fa,sa⟩:=ga.cells;try simp only [Aa] at ca fa sa
 try simp only [zL] at ca fa sa
 try simp only [zD] at ca fa sa
 try simp only [zS] at ca fa sa
 have za0:w.heap.size < wa.heap.size:=by omega
 have ya0:w.heap.size≤wa.heap.size:=by omega
 have ka0:=fun o => ca (w.heap.size) o (by omega)
 have ja0:=fun o => fa (w.heap.size) o (by omega)
 go_wp2_with fail;refine (C7 _ (n:=wa.heap.size + 1) (by simp)).mono ?_;rintro r w3 ⟨rfl,hW⟩;have g3:=hW.world;have hbo:=(Ag.new wa #[.int .i64 e.kd,.int .i64 e.id,.int .i64 e.srv.k,.int .i64 e.srv.q,.int .i64 e.srv.t,.int .i64 e.po,.slice a e.tasks.length c,.int .i64 e.at_] 32).gr g3;have hbe:=(((Ag.new w #[.int .i64 e.cl,.int .i64 e.nu,.int .i64 e.kd,.int .i64 e.id,.int .i64 e.srv.k,.int .i64 e.srv.q,.int .i64 e.srv.t,.int .i64 e.po,.slice a e.tasks.length c,.int .i64 e.at_] 137).gr ga).alloc (.cells #[.int .i64 e.kd,.int .i64 e.id,.int .i64 e.srv.k,.int .i64 e.srv.q,.int .i64 e.srv.t,.int .i64 e.po,.slice a e.tasks.length c,.int .i64 e.at_] 32)).gr g3;have gw3:Gr w w3:=((((Gr.refl w).alloc _).trans ga).alloc _).trans g3;have c0:=hbe.cell (i:=0) rfl;have c1:=hbe.cell (i:=1) rfl;obtain ⟨d0,d1,d2,d3,d4,d5,d6,d7⟩:=hbo.c8;replace hW:=zH hW;have hbo2:=hbo;replace hbo2:=zH hbo2;clear hbe hbo;go_wp2_with fail;go_loopw [46] (fun kv wr => ∃ k:Nat,k≤10∧kv = .int .i64 k∧C8 (wa.alloc (.cells #[.int .i64 e.kd,.int .i64 e.id,.int .i64 e.srv.k,.int .i64 e.srv.q,.int .i64 e.srv.t,.int .i64 e.po,.slice a e.tasks.length c,.int .i64 e.at_] 32)) wr (wa.heap.size + 1) wr.heap.size (AM ((CJ e).take k))) (fun kv _ => 10 - (intOf kv).toNat);case atStart => exact ⟨0,by omega,rfl,hW.out.full⟩
 case round =>
  obtain ⟨k,hk,rfl,hWr⟩:=hrel;by_cases hlt:k < 10
  ·have hlt2:(k:Int) < 10:=by omega
   obtain ⟨v,hv⟩:=Ac (CJ e) k hlt;obtain ⟨v0,v1⟩:=hhd.out v (List.mem_of_getElem? hv);obtain ⟨m,rfl⟩:∃ m:Nat,v = m:=⟨v.toNat,by omega⟩
   have hcs:(#[.int .i64 e.cl,.int .i64 e.nu,.int .i64 e.kd,.int .i64 e.at_,.int .i64 e.id,.int .i64 e.srv.k,.int .i64 e.srv.q,.int .i64 e.srv.t,.int .i64 e.po,.int .i64 (e.tasks.length:Int)]:Array Value)[k]? = some (.int .i64 (m:Int)):=by
    show ((CJ e).map (Value.int .i64)).toArray[k]? = _;simp [hv]
   have hix:=fun w => GO w Tryz.underlying291 hlt hcs
   have hlen:=B8 (l:=(CJ e).take k) (fun n hn => hhd.out n (List.mem_of_mem_take hn));have hlen2:((CJ e).take k).length≤10:=by rw [List.length_take];omega
   have hnum:=Ew _ wr _ wr.heap.size (AM ((CJ e).take k)) m hWr (by omega) (by omega);have hsn:AM ((CJ e).take (k + 1)) = AM ((CJ e).take k) ++ BX m:=by rw [Ae hv,CO];rfl
   refine B0 ?_ hWr hnum hsn hcs;clear hWr hnum hsn hcs;intro hWr hnum hsn hcs;clear hv;go_wp2_with fail;refine hnum.out.mono ?_;rintro r w4 ⟨rfl,hK⟩;go_wp2_with fail;go_roundw;case rel => exact ⟨k + 1,by omega,by go_num,by rw [hsn.out];exact hK.at⟩
   case measure => simp [intOf];omega
  ·have hk10:k = 10:=by omega
   have hh:(CJ e).take k = CJ e:=List.take_of_length_le (by rw [hk10];simp [CJ]);have hk10b:decide ((k:Int) < 10) = false:=decide_eq_false (by omega);rw [hh] at hWr;replace hk10:=zH hk10;replace hh:=zH hh;have g4:=hWr.world;have hbw:Ag wr wa.heap.size #[.int .i64 e.kd,.int .i64 e.id,.int .i64 e.srv.k,.int .i64 e.srv.q,.int .i64 e.srv.t,.int .i64 e.po,.slice a e.tasks.length c,.int .i64 e.at_] 32:=(Ag.new wa #[.int .i64 e.kd,.int .i64 e.id,.int .i64 e.srv.k,.int .i64 e.srv.q,.int .i64 e.srv.t,.int .i64 e.po,.slice a e.tasks.length c,.int .i64 e.at_] 32).gr g4;have f6:=hbw.cell (i:=6) (v:=.slice a e.tasks.length c) rfl;have z6:=hbw.lt;have hlh:=B8 hhd.out;replace hWr:=zH hWr;replace hbw:=zH hbw;have hhl:(CJ e).length = 10:=rfl;obtain ⟨H,hH⟩:=zE (CJ e);rw [← hH] at hWr hlh hhl;replace hH:=zH hH;have gw2:Gr w (wa.alloc (.cells #[.int .i64 e.kd,.int .i64 e.id,.int .i64 e.srv.k,.int .i64 e.srv.q,.int .i64 e.srv.t,.int .i64 e.po,.slice a e.tasks.length c,.int .i64 e.at_] 32)):=(((Gr.refl w).alloc _).trans ga).alloc _;go_wp2_with fail;go_loopw [56] (fun jv wr => ∃ j:Nat,j≤e.tasks.length∧jv = .int .i64 j∧C8 (wa.alloc (.cells #[.int .i64 e.kd,.int .i64 e.id,.int .i64 e.srv.k,.int .i64 e.srv.q,.int .i64 e.srv.t,.int .i64 e.po,.slice a e.tasks.length c,.int .i64 e.at_] 32)) wr (wa.heap.size + 1) wr.heap.size (AM (H ++ (e.tasks.take j).flatMap B1))) (fun jv _ => e.tasks.length - (intOf jv).toNat);case atStart => exact ⟨0,Nat.zero_le _,rfl,by simpa using hWr.out⟩
   case round =>
    obtain ⟨j,hj,rfl,hWj⟩:=hrel;obtain ⟨wo,rfl⟩:∃ wo:World,wo = wr:=⟨_,rfl⟩
    by_cases hjl:j < e.tasks.length
    ·obtain ⟨t,ht⟩:=Ac e.tasks j hjl;obtain ⟨b,off,rfl,hb,hct⟩:=htr.out j t ht;have gwo:=gw2.trans hWj.world;have e0:wo.cell? ⟨b,off + j * 4,none⟩ = some (.int .i64 t.c):=by rw [gwo.cells.1 _ _ hb];exact hct 0 _ rfl
     have e1:wo.cell? ⟨b,off + j * 4 + 1,none⟩ = some (.int .i64 t.p):=by rw [gwo.cells.1 _ _ hb];exact hct 1 _ rfl
     have e2:wo.cell? ⟨b,off + j * 4 + 2,none⟩ = some (.int .i64 t.d):=by rw [gwo.cells.1 _ _ hb];exact hct 2 _ rfl
     have e3:wo.cell? ⟨b,off + j * 4 + 3,none⟩ = some (.int .i64 t.s):=by rw [gwo.cells.1 _ _ hb];exact hct 3 _ rfl
     have hbo3:b < wo.heap.size:=Nat.lt_of_lt_of_le hb gwo.size;have htn:=Fq (htk.out t (List.mem_of_getElem? ht));have hts:(e.tasks.take (j + 1)).flatMap B1 = (e.tasks.take j).flatMap B1 ++ B1 t:=by rw [Ae ht,List.flatMap_append];simp
     have hpre:LE (H ++ (e.tasks.take j).flatMap B1):=fun n hn => by
      rcases List.mem_append.1 hn with hn | hn
      ·rw [hH.out] at hn;exact hhd.out n hn
      ·obtain ⟨y,hy,hyn⟩:=List.mem_flatMap.1 hn;exact Fq (htk.out y (List.mem_of_mem_take hy)) n hyn
     have hpl:(H ++ (e.tasks.take j).flatMap B1).length≤42:=by
      rw [List.length_append,hhl,DD,List.length_take];omega
     obtain ⟨F,hF⟩:=zE (H ++ (e.tasks.take j).flatMap B1);rw [← hF] at hWj hpre hpl;have hF2:H ++ (e.tasks.take (j + 1)).flatMap B1 = F ++ B1 t:=by rw [hts,hF,List.append_assoc]
     have hWa:=hWj.gr ((Gr.refl wo).alloc (.cells #[.int .i64 t.c,.int .i64 t.p,.int .i64 t.d,.int .i64 t.s] 41));have hWa2:=hWa.full;refine Br ?_ hWa hWa2 hWj hts hF hF2 ht htn;clear hWa hWa2 hWj hts hF hF2 ht htn;intro hWa hWa2 hWj hts hF hF2 ht htn;replace hpre:=zH hpre;clear hct;go_wp2_with fail;go_loopw [69] (fun kv wr => ∃ k:Nat,k≤4∧kv = .int .i64 k∧C8 (wa.alloc (.cells #[.int .i64 e.kd,.int .i64 e.id,.int .i64 e.srv.k,.int .i64 e.srv.q,.int .i64 e.srv.t,.int .i64 e.po,.slice (some ⟨b,off,none⟩) e.tasks.length c,.int .i64 e.at_] 32)) wr (wa.heap.size + 1) wr.heap.size (AM (F ++ (B1 t).take k))) (fun kv _ => 4 - (intOf kv).toNat);case atStart => exact ⟨0,by omega,rfl,by simpa using hWa2.out⟩
     case round =>
      obtain ⟨k,hk,rfl,hWr2⟩:=hrel;by_cases hlt:k < 4
      ·have hlt2:(k:Int) < 4:=by omega
       obtain ⟨v,hv⟩:=Ac (B1 t) k hlt;obtain ⟨v0,v1⟩:=htn.out v (List.mem_of_getElem? hv);obtain ⟨m,rfl⟩:∃ m:Nat,v = m:=⟨v.toNat,by omega⟩
       have hcs:(#[.int .i64 t.c,.int .i64 t.p,.int .i64 t.d,.int .i64 t.s]:Array Value)[k]? = some (.int .i64 (m:Int)):=by
        show ((B1 t).map (Value.int .i64)).toArray[k]? = _;simp [hv]
       have hix:=fun w => GO w Tryz.underlying292 hlt hcs
       have hlen:=B8 (l:=F ++ (B1 t).take k) (fun n hn => (List.mem_append.1 hn).elim (hpre.out n) (fun h => htn.out n (List.mem_of_mem_take h)));have hlen2:(F ++ (B1 t).take k).length≤46:=by rw [List.length_append,List.length_take];omega
       have hnum:=Ew _ wr _ wr.heap.size (AM (F ++ (B1 t).take k)) m hWr2 (by omega) (by omega);have hsn:AM (F ++ (B1 t).take (k + 1)) = AM (F ++ (B1 t).take k) ++ BX m:=by rw [Ae hv,← List.append_assoc,CO];rfl
       refine B0 ?_ hWr2 hnum hsn hcs;clear hWr2 hnum hsn hcs;intro hWr2 hnum hsn hcs;clear hv;go_wp2_with fail;refine hnum.out.mono ?_;rintro r w4 ⟨rfl,hK⟩;go_wp2_with fail;go_roundw;case rel => exact ⟨k + 1,by omega,by go_num,by rw [hsn.out];exact hK.at⟩
       case measure => simp [intOf];omega
      ·have hk4:k = 4:=by omega
       have hWe:C8 (wa.alloc (.cells #[.int .i64 e.kd,.int .i64 e.id,.int .i64 e.srv.k,.int .i64 e.srv.q,.int .i64 e.srv.t,.int .i64 e.po,.slice (some ⟨b,off,none⟩) e.tasks.length c,.int .i64 e.at_] 32)) wr (wa.heap.size + 1) wr.heap.size (AM (H ++ (e.tasks.take (j + 1)).flatMap B1)):=by
        rw [hF2.out];rw [hk4] at hWr2;exact hWr2
       have hk4b:decide ((k:Int) < 4) = false:=decide_eq_false (by omega);refine AZ ?_ hWe hWr2 hk4;clear hWe hWr2 hk4;intro hWe hWr2 hk4;go_wp2_with fail;go_roundw;case rel => exact ⟨j + 1,by omega,by go_num,hWe.out⟩
       case measure => simp [intOf];omega
    ·have hall:e.tasks.take j = e.tasks:=List.take_of_length_le (by omega);rw [hall,hH.out] at hWj;have hln:=B8 (l:=EY e) (fun n hn => by
      rcases List.mem_append.1 hn with hn | hn
      ·exact hhd.out n hn
      ·obtain ⟨y,hy,hyn⟩:=List.mem_flatMap.1 hn;exact Fq (htk.out y hy) n hyn)
     have hnl:(EY e).length≤42:=by
      unfold EY;rw [List.length_append,DD];have:(CJ e).length = 10:=rfl;omega
     have hdn:=HC _ wo _ _ (AM (EY e)) hWj (by omega);have gwo:=gw2.trans hWj.world;refine AZ ?_ hdn hWj hall;clear hdn hWj hall;intro hdn hWj hall;go_wp2_with fail;refine hdn.out.mono ?_;rintro r w5 ⟨a5,c5,rfl,h5⟩;replace h5:=zH h5;go_wp2_with fail;go_ret2;exact ⟨a5,c5,rfl,h5.out.older gwo⟩
def LB (k:Int) (e:Du):List UInt8:=AM [k,e.cl,e.nu] ++ (if k = 1 then BX (AM (EY e)).length ++ AM (EY e) else [])
theorem Na {e:Du} (h:FC e = true):LE (EY e):=fun n hn => by
 rcases List.mem_append.1 hn with hn | hn
 ·exact Kt h n hn
 ·obtain ⟨y,hy,hyn⟩:=List.mem_flatMap.1 hn;exact Fq ((ES h).2 y hy) n hyn
theorem On {e:Du} (h:FC e = true):(AM (EY e)).length≤252:=by
 have h1:=B8 (Na h);have h2:(EY e).length≤42:=by
  unfold EY;rw [List.length_append,DD];have:(CJ e).length = 10:=rfl;have:=(ES h).1;omega
 omega
theorem LA {k:Int} {e:Du} (h:HO k e = true):(k = 1∧FC e = true ∨ k = 2)∧0≤e.cl∧e.cl < 16∧1≤e.nu∧e.nu≤1099511627776:=by
 unfold HO at h;simp only [Bool.or_eq_true,Bool.and_eq_true,decide_eq_true_iff] at h;rcases h with ⟨h1,h2⟩ | ⟨⟨h1,-⟩,h2⟩
 ·have h3:=h2;unfold FC at h3;simp only [Bool.and_eq_true,decide_eq_true_iff] at h3;exact ⟨.inl ⟨h1,h2⟩,h3.1⟩
 ·exact ⟨.inr h1,h2⟩
theorem Lc {G:List Nat} {E:Nat→Addr} (k0:Int) (e:Du) (a:Option Addr) (c:Nat) (w:World) (h:(⟨e,a,c⟩:At).ok Any w) (hE:CK G E w) (i0:15 ∈ G) (hf:HO k0 e = true) :
 Calls Tryz.prog 61 #[.agg #[.int .i64 k0,.int .i64 e.cl,.int .i64 e.nu,.int .i64 e.kd,.int .i64 e.id,.int .i64 e.srv.k,.int .i64 e.srv.q,.int .i64 e.srv.t,.int .i64 e.po,.slice a e.tasks.length c,.int .i64 e.at_]] w fun r w' => ∃ a' c',r = .returned (.tuple #[.slice a' (Cy (LB k0 e)).length c',.nilIface])∧Own w w' a' c' (Cy (LB k0 e)):=by
 have hck:=fun w' (g:Gr w w') => Jq k0 ⟨e,a,c⟩ w' (h.gr g) (hE.gr g) i0
 dsimp only at hck;rw [hf] at hck;have hck2:∀ w',Gr w w'→Calls Tryz.prog 109 #[.agg #[.int .i64 k0,.int .i64 e.cl,.int .i64 e.nu,.int .i64 e.kd,.int .i64 e.id,.int .i64 e.srv.k,.int .i64 e.srv.q,.int .i64 e.srv.t,.int .i64 e.po,.slice a e.tasks.length c,.int .i64 e.at_]] w' fun e w'' => e = .returned .nilIface∧Gr w' w'':=hck
 clear hck;obtain ⟨hk,n1,n2,n3,n4⟩:=LA hf;rcases hk with ⟨rfl,hfe⟩ | rfl
 ·have hpt:=fun w' (g:Gr w w') => OR e a c w' (h.gr g) (hE.gr g) i0 hfe
  have hbl:=On hfe;refine DT ?_ hpt hck2 hf hfe h;clear hpt hck2 hf hfe h;intro hpt hck2 hf hfe h;have hhd:LE [1,e.cl,e.nu]:=fun n hn => by
   simp only [List.mem_cons,List.not_mem_nil,or_false] at hn;rcases hn with rfl | rfl | rfl <;> omega
  obtain ⟨H,hH⟩:∃ H,H = [(1:Int),e.cl,e.nu]:=⟨_,rfl⟩
  have hHl:H.length = 3:=by rw [hH];rfl
  rw [← hH] at hhd;have hlh:=B8 hhd;replace hH:=zH hH;replace hhd:=zH hhd;go_enter Tryz.func61,Tryz.ntmps61;go_wp2_with fail;refine (hck2.out _ ((Gr.refl w).alloc _)).mono ?_;rintro e wa ⟨rfl,ga⟩;obtain ⟨ca,fa,sa⟩:=ga.cells;try simp only [Aa] at ca fa sa
  try simp only [zL] at ca fa sa
  try simp only [zD] at ca fa sa
  try simp only [zS] at ca fa sa
  have za0:w.heap.size < wa.heap.size:=by omega
  have ya0:w.heap.size≤wa.heap.size:=by omega
  have ka0:=fun o => ca (w.heap.size) o (by omega)
  have ja0:=fun o => fa (w.heap.size) o (by omega)
  have gwa:Gr w wa:=((Gr.refl w).alloc _).trans ga;go_wp2_with fail;refine (C7 _ (n:=wa.heap.size) rfl).mono ?_;rintro r w3 ⟨rfl,hW⟩;have g3:=hW.world;have hbe:=((Ag.new w #[.int .i64 1,.int .i64 e.cl,.int .i64 e.nu,.int .i64 e.kd,.int .i64 e.id,.int .i64 e.srv.k,.int .i64 e.srv.q,.int .i64 e.srv.t,.int .i64 e.po,.slice a e.tasks.length c,.int .i64 e.at_] 47).gr ga).gr g3;have c0:=hbe.cell (i:=0) rfl;have c1:=hbe.cell (i:=1) rfl;have c2:=hbe.cell (i:=2) rfl;replace hW:=zH hW;replace hbe:=zH hbe;go_wp2_with fail;go_loopw [23] (fun kv wr => ∃ q:Nat,q≤3∧kv = .int .i64 q∧C8 wa wr wa.heap.size wr.heap.size (AM (H.take q))) (fun kv _ => 3 - (intOf kv).toNat);case atStart => exact ⟨0,by omega,rfl,hW.out.full⟩
  case round =>
   obtain ⟨k,hk,rfl,hWr⟩:=hrel;by_cases hlt:k < 3
   ·have hlt2:(k:Int) < 3:=by omega
    obtain ⟨v,hv⟩:=Ac H k (by omega);obtain ⟨v0,v1⟩:=hhd.out v (List.mem_of_getElem? hv);obtain ⟨m,rfl⟩:∃ m:Nat,v = m:=⟨v.toNat,by omega⟩
    have hcs:(#[.int .i64 1,.int .i64 e.cl,.int .i64 e.nu]:Array Value)[k]? = some (.int .i64 (m:Int)):=by
     have hv2:=hv;rw [hH.out] at hv2;show (([(1:Int),e.cl,e.nu]:List Int).map (Value.int .i64)).toArray[k]? = _;rw [List.getElem?_toArray,List.getElem?_map,hv2];rfl
    have hix:=fun w => GO w Tryz.underlying204 hlt hcs
    have hlen:=B8 (l:=H.take k) (fun n hn => hhd.out n (List.mem_of_mem_take hn));have hlen2:(H.take k).length≤3:=by rw [List.length_take];omega
    have hnum:=Ew _ wr _ wr.heap.size (AM (H.take k)) m hWr (by omega) (by omega);have hsn:AM (H.take (k + 1)) = AM (H.take k) ++ BX m:=by rw [Ae hv,CO];rfl
    refine B0 ?_ hWr hnum hsn hcs;clear hWr hnum hsn hcs;intro hWr hnum hsn hcs;clear hv;go_wp2_with fail;refine hnum.out.mono ?_;rintro r w4 ⟨rfl,hK⟩;go_wp2_with fail;go_roundw;case rel => exact ⟨k + 1,by omega,by go_num,by rw [hsn.out];exact hK.at⟩
    case measure => simp [intOf];omega
   ·have hk3:k = 3:=by omega
    have hh:H.take k = H:=List.take_of_length_le (by omega);have hk3b:decide ((k:Int) < 3) = false:=decide_eq_false (by omega);rw [hh] at hWr;have g4:=hWr.world;have gwr:=gwa.trans g4;have hbw:=((Ag.new w #[.int .i64 1,.int .i64 e.cl,.int .i64 e.nu,.int .i64 e.kd,.int .i64 e.id,.int .i64 e.srv.k,.int .i64 e.srv.q,.int .i64 e.srv.t,.int .i64 e.po,.slice a e.tasks.length c,.int .i64 e.at_] 47).gr ga).gr g4;obtain ⟨f0,f1,f2,f3,f4,f5,f6,f7,f8,f9,f10⟩:=hbw.c11;have z6:=hbw.lt;refine B0 ?_ hWr hbw hk3 hh;clear hWr hbw hk3 hh;intro hWr hbw hk3 hh;go_wp2_with fail;refine (Bv 1 ⟨e,a,c⟩ wr).mono ?_;rintro r w5 ⟨rfl,g5⟩;go_wp2_with fail;refine (hpt.out w5 (gwr.trans g5)).mono ?_;rintro r w6 ⟨a6,c6,rfl,h6⟩;have g6:=h6.2.2.2.2;have hW6:=hWr.out.gr (g5.trans g6);have s5:=g5.size;have hwb:=KQ _ w6 _ _ _ a6 c6 (AM (EY e)) hW6 (by omega) h6.2.1 h6.2.2.1 (fun x hx => .inr ⟨by have:=h6.2.2.2.1 x hx;omega,h6.lt hx⟩) (by omega);refine AZ ?_ hwb h6 hW6;clear hwb h6 hW6;intro hwb h6 hW6;go_wp2_with fail;refine hwb.out.mono ?_;rintro r w7 ⟨rfl,hW7⟩;have hfr:=Hu _ w7 _ _ _ hW7 (by rw [List.length_append,List.length_append];have:=EP (n:=(AM (EY e)).length) (by omega);omega);rw [show AM H ++ BX (AM (EY e)).length ++ AM (EY e) = LB 1 e by rw [hH.out];unfold LB;rw [if_pos rfl,List.append_assoc]] at hfr;have g7:=hW7.world;replace hfr:=zH hfr;replace hW7:=zH hW7;go_wp2_with fail;refine hfr.out.mono ?_;rintro r w8 ⟨a8,c8,rfl,h8⟩;replace h8:=zH h8;go_wp2_with fail;go_ret2;exact ⟨a8,c8,rfl,h8.out.older (gwa.trans g7)⟩
 ·replace hck2:=zH hck2;replace hf:=zH hf;replace h:=zH h;have hhd:LE [2,e.cl,e.nu]:=fun n hn => by
   simp only [List.mem_cons,List.not_mem_nil,or_false] at hn;rcases hn with rfl | rfl | rfl <;> omega
  obtain ⟨H,hH⟩:∃ H,H = [(2:Int),e.cl,e.nu]:=⟨_,rfl⟩
  have hHl:H.length = 3:=by rw [hH];rfl
  rw [← hH] at hhd;have hlh:=B8 hhd;replace hH:=zH hH;replace hhd:=zH hhd;go_enter Tryz.func61,Tryz.ntmps61;go_wp2_with fail;refine (hck2.out _ ((Gr.refl w).alloc _)).mono ?_;rintro e wa ⟨rfl,ga⟩;obtain ⟨ca,fa,sa⟩:=ga.cells;try simp only [Aa] at ca fa sa
  try simp only [zL] at ca fa sa
  try simp only [zD] at ca fa sa
  try simp only [zS] at ca fa sa
  have za0:w.heap.size < wa.heap.size:=by omega
  have ya0:w.heap.size≤wa.heap.size:=by omega
  have ka0:=fun o => ca (w.heap.size) o (by omega)
  have ja0:=fun o => fa (w.heap.size) o (by omega)
  have gwa:Gr w wa:=((Gr.refl w).alloc _).trans ga;go_wp2_with fail;refine (C7 _ (n:=wa.heap.size) rfl).mono ?_;rintro r w3 ⟨rfl,hW⟩;have g3:=hW.world;have hbe:=((Ag.new w #[.int .i64 2,.int .i64 e.cl,.int .i64 e.nu,.int .i64 e.kd,.int .i64 e.id,.int .i64 e.srv.k,.int .i64 e.srv.q,.int .i64 e.srv.t,.int .i64 e.po,.slice a e.tasks.length c,.int .i64 e.at_] 47).gr ga).gr g3;have c0:=hbe.cell (i:=0) rfl;have c1:=hbe.cell (i:=1) rfl;have c2:=hbe.cell (i:=2) rfl;replace hW:=zH hW;replace hbe:=zH hbe;go_wp2_with fail;go_loopw [23] (fun kv wr => ∃ q:Nat,q≤3∧kv = .int .i64 q∧C8 wa wr wa.heap.size wr.heap.size (AM (H.take q))) (fun kv _ => 3 - (intOf kv).toNat);case atStart => exact ⟨0,by omega,rfl,hW.out.full⟩
  case round =>
   obtain ⟨k,hk,rfl,hWr⟩:=hrel;by_cases hlt:k < 3
   ·have hlt2:(k:Int) < 3:=by omega
    obtain ⟨v,hv⟩:=Ac H k (by omega);obtain ⟨v0,v1⟩:=hhd.out v (List.mem_of_getElem? hv);obtain ⟨m,rfl⟩:∃ m:Nat,v = m:=⟨v.toNat,by omega⟩
    have hcs:(#[.int .i64 2,.int .i64 e.cl,.int .i64 e.nu]:Array Value)[k]? = some (.int .i64 (m:Int)):=by
     have hv2:=hv;rw [hH.out] at hv2;show (([(2:Int),e.cl,e.nu]:List Int).map (Value.int .i64)).toArray[k]? = _;rw [List.getElem?_toArray,List.getElem?_map,hv2];rfl
    have hix:=fun w => GO w Tryz.underlying204 hlt hcs
    have hlen:=B8 (l:=H.take k) (fun n hn => hhd.out n (List.mem_of_mem_take hn));have hlen2:(H.take k).length≤3:=by rw [List.length_take];omega
    have hnum:=Ew _ wr _ wr.heap.size (AM (H.take k)) m hWr (by omega) (by omega);have hsn:AM (H.take (k + 1)) = AM (H.take k) ++ BX m:=by rw [Ae hv,CO];rfl
    refine B0 ?_ hWr hnum hsn hcs;clear hWr hnum hsn hcs;intro hWr hnum hsn hcs;clear hv;go_wp2_with fail;refine hnum.out.mono ?_;rintro r w4 ⟨rfl,hK⟩;go_wp2_with fail;go_roundw;case rel => exact ⟨k + 1,by omega,by go_num,by rw [hsn.out];exact hK.at⟩
    case measure => simp [intOf];omega
   ·have hk3:k = 3:=by omega
    have hh:H.take k = H:=List.take_of_length_le (by omega);have hk3b:decide ((k:Int) < 3) = false:=decide_eq_false (by omega);rw [hh] at hWr;have g4:=hWr.world;have gwr:=gwa.trans g4;have hbw:=((Ag.new w #[.int .i64 2,.int .i64 e.cl,.int .i64 e.nu,.int .i64 e.kd,.int .i64 e.id,.int .i64 e.srv.k,.int .i64 e.srv.q,.int .i64 e.srv.t,.int .i64 e.po,.slice a e.tasks.length c,.int .i64 e.at_] 47).gr ga).gr g4;obtain ⟨f0,f1,f2,f3,f4,f5,f6,f7,f8,f9,f10⟩:=hbw.c11;have z6:=hbw.lt;refine B0 ?_ hWr hbw hk3 hh;clear hWr hbw hk3 hh;intro hWr hbw hk3 hh;have hfr:=Hu _ wr _ _ _ hWr.out (by omega);rw [show AM H = LB 2 e by rw [hH.out];unfold LB;rw [if_neg (by decide),List.append_nil]] at hfr;replace hfr:=zH hfr;go_wp2_with fail;refine hfr.out.mono ?_;rintro r w8 ⟨a8,c8,rfl,h8⟩;replace h8:=zH h8;go_wp2_with fail;go_ret2;exact ⟨a8,c8,rfl,h8.out.older gwr⟩
theorem Oy {m:Nat} (hm:m < 4294967296) (h:m % 2 = 1):bits .xor .u32 ((m:Int) / 2) 3988292384 = ((Ec m:Nat):Int):=by
 have:=DU (a:=m / 2) (b:=H4) (by omega) (by decide);unfold Ec;rw [if_pos h];exact this
theorem Nr {m:Nat} (h:¬ m % 2 = 1):(m:Int) / 2 = ((Ec m:Nat):Int):=by
 unfold Ec;rw [if_neg h,Nat.xor_zero];rfl
theorem JN (a:Option Addr) (c:Nat) (l:List UInt8) (n:Nat) (hn:n < 4294967296) (w:World) (h:Az w a l) (hm:l.length≤maxLen) :
 Calls Tryz.prog 188 #[.int .u32 n,.slice a l.length c] w fun e w' => e = .returned (.int .u32 (Eb n l))∧w = w':=by
 have hmm:=hm;unfold maxLen at hmm;replace h:=zH h;go_enter Tryz.func188,Tryz.ntmps188;go_wp2_with fail;go_loop [10,0] (fun iv nv => ∃ k:Nat,k≤l.length∧iv = .int .i64 k∧nv = .int .u32 (Eb n (l.take k))) (fun iv _ => l.length - (intOf iv).toNat);case atStart => exact ⟨0,Nat.zero_le _,rfl,rfl⟩
 case round =>
  obtain ⟨k,hk,rfl,rfl⟩:=hrel;by_cases hlt:k < l.length
  ·obtain ⟨x,hx⟩:=Ac l k hlt;obtain ⟨b,off,rfl,hb,c0⟩:=h.out.get hx;have hc:=x.toNat_lt;have hw:=FE (l.take k) hn;have hs:Eb n (l.take (k + 1)) = Pa (Eb n (l.take k)) x.toNat:=by rw [Ae hx,IL]
   generalize Eb n (l.take k) = m at *;have e1:bits .xor .u32 (m:Int) (x.toNat:Int) = ((m ^^^ x.toNat:Nat):Int):=DU hw (by omega);have hz:=Nat.xor_lt_two_pow (n:=32) hw (show x.toNat < 2 ^ 32 by omega);have hb8:=LJ hc m;rw [← hb8] at hs;generalize m ^^^ x.toNat = z at *;refine AZ ?_ hs hx hb8;clear hs hx hb8;intro hs hx hb8;go_wp2_with fail;go_loop [7,0] (fun iv nv => ∃ (j y:Nat),j≤8∧iv = .int .i64 j∧nv = .int .u32 y∧y < 4294967296∧CH (8 - j) y = CH 8 z) (fun iv _ => 8 - (intOf iv).toNat);case atStart => exact ⟨0,z,by omega,rfl,rfl,hz,rfl⟩
   case round =>
    obtain ⟨j,y,hj,rfl,rfl,hy,he⟩:=hrel;by_cases hjl:j < 8
    ·have hjl2:(j:Int) < 8:=by omega
     have hy2:=Ju hy;have he2:CH (8 - (j + 1)) (Ec y) = CH 8 z:=by rw [← he,show 8 - j = 8 - (j + 1) + 1 by omega];rfl
     replace he:=zH he;replace he2:=zH he2;by_cases ho:y % 2 = 1
     ·have v1:=Oy hy ho;have v2:((y:Int) % 2 == 1) = true:=by simp;omega
      have v3:(y:Int) % 2 = 1:=by omega
      replace ho:=zH ho;go_wp2_with fail;go_round;case rel => exact ⟨j + 1,Ec y,by omega,by go_num,by first | rfl | rw [v1],hy2,he2.out⟩
      case measure => simp [intOf];omega
     ·have v1:=Nr ho;have v2:((y:Int) % 2 == 1) = false:=by simp;omega
      have v3:(y:Int) % 2 = 0:=by omega
      replace ho:=zH ho;go_wp2_with fail;go_round;case rel => exact ⟨j + 1,Ec y,by omega,by go_num,by first | rfl | rw [v1],hy2,he2.out⟩
      case measure => simp [intOf];omega
    ·have hj8:j = 8:=by omega
     have hjb:decide ((j:Int) < 8) = false:=decide_eq_false (by omega);rw [hj8] at he;have hyz:y = CH 8 z:=he;refine AZ ?_ hyz hj8 he;clear hyz hj8 he;intro hyz hj8 he;go_wp2_with fail;go_round;case rel => exact ⟨k + 1,by omega,by go_num,by rw [hs.out,hyz.out]⟩
     case measure => simp [intOf];omega
  ·have hall:l.take k = l:=List.take_of_length_le (by omega);rw [hall];go_wp2_with fail;go_ret;exact ⟨rfl,rfl⟩
theorem NI (a:Option Addr) (c:Nat) (l:List UInt8) (w:World) (h:Az w a l) (hm:l.length≤maxLen) :
 Calls Tryz.prog 117 #[.slice a l.length c] w fun e w' => e = .returned (.int .u32 (crc l))∧w = w':=by
 have hu:=JN a c l 4294967295 (by omega) w h hm;have hw:=FE l (w:=4294967295) (by omega);unfold crc;generalize Eb 4294967295 l = m at *;have hv:bits .xor .u32 (m:Int) 4294967295 = ((4294967295 - m:Nat):Int):=by
  have:=DU (a:=m) (b:=4294967295) hw (by omega);rw [LV hw] at this;exact this
 replace hu:=zH hu;replace hv:=zH hv;go_enter Tryz.func117,Tryz.ntmps117;go_wp2_with fail;refine hu.out.mono ?_;rintro e w2 ⟨rfl,rfl⟩;go_wp2_with fail;go_ret;exact ⟨congrArg (fun v => Ending.returned (.int .u32 v)) hv.out,rfl⟩
theorem NY (w:World) {n:Nat} {l:List UInt8} (hn:l.length = n) (cs:Array Value) (h:cs.toList = l.flatMap Cq) (hm:n≤1000000):(w.alloc (.cells cs 5)).ownsRow w.heap.size 5 1 (.slice (some ⟨w.heap.size,0,none⟩) n n) l.length (l.flatMap Cq):=by
 subst hn;have hl:(l.flatMap Cq).length = l.length:=by rw [BZ Bi,Nat.mul_one]
 have hcs:cs.size = l.length:=by rw [← hl,← h];simp
 refine ⟨by rw [hl,Nat.mul_one],.inr ⟨w.heap.size,l.length,cs,rfl,Nat.le_refl _,heap_alloc_new w _,by omega,by unfold maxLen;omega,by omega,?_⟩⟩;rw [← h];exact List.take_of_length_le (by simp;omega)
theorem Kp (n:Nat) (hn:n < 4294967296) (w:World) :
 Calls Tryz.prog 116 #[.int .u32 n] w fun e w' => ∃ a c,e = .returned (.slice a (Cs n).length c)∧Own w w' a c (Cs n):=by
 have hcl:=Hq hn;replace hcl:=zH hcl;go_enter Tryz.func116,Tryz.ntmps116;go_wp2_with fail;go_ret;have ho:=NY w (Ci n) _ hcl.out (by decide);obtain ⟨a,c,hv,hO⟩:=Own.of ho ((Gr.refl w).alloc _);cases hv
 exact ⟨_,_,rfl,hO⟩
theorem K3 (w:World) (a:Option Addr) (c:Nat) (l:List UInt8) (h:Az w a l) (hc:a = none→c = 0) (hl:l.length≤32768) :
 Calls Tryz.prog 62 #[.slice a l.length c] w fun e w' => ∃ a' c',e = .returned (.slice a' (Cy l).length c')∧Own w w' a' c' (Cy l):=by
 obtain ⟨i5,hi,hz0,hz1,hz2⟩:=info_parts Tryz.infoU8;have hp1:=Kp l.length (by omega) w;obtain ⟨L2,hL2⟩:=zE (Cs l.length ++ l);have hL2l:L2.length = 4 + l.length:=by rw [hL2,List.length_append,Ci]
 have hsu:=fun a1 c1 w1 (hb:Az w1 a1 L2) => NI a1 c1 L2 w1 hb (by unfold maxLen;omega)
 have hp2:=fun w1 => Kp (crc L2) (Ot _) w1
 obtain ⟨L3,hL3⟩:=zE (L2 ++ Cs (crc L2));have hfr:L3 = Cy l:=by rw [hL3,hL2];rfl
 rw [← hfr];have n1:(Cs l.length).length + l.length≤maxLen:=by rw [Ci];unfold maxLen;omega
 have n2:((Cs l.length).length + l.length) * 1≤140737488355328:=by rw [Ci];omega
 have m1:L2.length + (Cs (crc L2)).length≤maxLen:=by rw [Ci];unfold maxLen;omega
 have m2:(L2.length + (Cs (crc L2)).length) * 1≤140737488355328:=by rw [Ci];omega
 refine Br ?_ hp1 hp2 hsu h hL2 hL3 hfr hL2l;clear hp1 hp2 hsu h hL2 hL3 hfr hL2l;intro hp1 hp2 hsu h hL2 hL3 hfr hL2l;go_enter Tryz.func62,Tryz.ntmps62;go_wp2_with fail;refine hp1.out.mono ?_;rintro e w1 ⟨a1,c1,rfl,ho1⟩;obtain ⟨ow,br,bn,bb,g1⟩:=ho1;have n3:=g1.size;have hs1:=h.out.gr g1;refine B0 ?_ br bb bn hs1;clear br bb bn hs1;intro br bb bn hs1;go_wp2_with (at_builtin;go_loud (refine Ai (k:=1) (enc:=Cq) rfl _ _ 54 rfl w.heap.size 5 i5 _ 1 Tryz.underlying54 hi hz0 hz1 hz2 rfl (by decide) Bi Co (.slice a1 (Cs l.length).length c1) (Cs l.length) rfl ow a c l rfl hs1.out hc n1 n2 n3 ?_;intro v2 w2 hown2 hgr2;rw [← hL2.out] at hown2;have g2:Gr w w2:=g1.grown hgr2 (A7 ow);obtain ⟨a2,c2,hv2,ho2⟩:=Own.of hown2 g2;subst hv2;have hb2:=ho2.2.1;refine AZ ?_ ho2 hb2 hown2;clear ho2 hb2 hown2;intro ho2 hb2 hown2));refine (hsu.out a2 c2 w2 hb2.out).mono ?_;rintro e w3 ⟨rfl,rfl⟩;go_wp2_with fail;refine (hp2.out w2).mono ?_;rintro e w4 ⟨a4,c4,rfl,ho4⟩;have hO:=ho2.out.gr ho4.2.2.2.2;obtain ⟨ow5,br5,bn5,bb5,g5⟩:=hO;have n5:=g5.size;have hb4:=ho4.2.1;have hc4:=ho4.2.2.1;refine DT ?_ ho4 br5 bb5 bn5 hb4;clear ho4 br5 bb5 bn5 hb4;intro ho4 br5 bb5 bn5 hb4;go_wp2_with (at_builtin;go_loud (refine Ai (k:=1) (enc:=Cq) rfl _ _ 54 rfl w.heap.size 5 i5 _ 1 Tryz.underlying54 hi hz0 hz1 hz2 rfl (by decide) Bi Co (.slice a2 L2.length c2) L2 rfl ow5 a4 c4 (Cs (crc L2)) rfl hb4.out hc4 m1 m2 n5 ?_;intro v6 w6 hown6 hgr6;rw [← hL3.out] at hown6;have g6:Gr w w6:=g5.grown hgr6 (A7 ow5);obtain ⟨a6,c6,hv6,ho6⟩:=Own.of hown6 g6;subst hv6;replace ho6:=zH ho6;replace hown6:=zH hown6));go_ret;exact ⟨a6,c6,rfl,ho6.out⟩
abbrev strB (l:List UInt8):Value:=.string ⟨l.toArray⟩
theorem DQ {w:World} {a:Option Addr} {l:List UInt8} (c:Nat) (h:Az w a l):(convert 54 9 (.slice a l.length c)).run Tryz.prog w = .ok (strB l) w:=by
 cases a with
 | none =>
  have hl:l = []:=by
   cases l with
   | nil => rfl
   | cons x r =>
    obtain ⟨b,off,hn,_⟩:=h.get (i:=0) rfl;cases hn
  subst hl;have hl:=@run_convert_bytes_string Tryz.prog;exact (hl w 54 9 5 none 0 c (by kernel_rfl) (by kernel_rfl) (by kernel_rfl)).trans rfl
 | some a =>
  refine run_convert_bytes_back (P:=Tryz.prog) w 54 9 5 a c l (by kernel_rfl) (by kernel_rfl) (by kernel_rfl) fun j hj => ?_
  obtain ⟨b,off,hn,_,hc⟩:=h.get (List.getElem?_eq_getElem hj);cases hn
  have ha:(⟨b,off,none⟩:Addr).add j = ⟨b,off + j,none⟩:=by simp [Addr.add]
  rw [ha];exact hc
abbrev exE:Du:=⟨1,2,0,0,⟨0,0,0⟩,0,[],0⟩
theorem Oi:HO 2 exE = true:=by decide
theorem Oj:LB 2 exE = [2,1,2]:=by
 have h1:BX 1 = [1]:=De (by decide);have h2:BX 2 = [2]:=De (by decide);show BX 2 ++ (BX 1 ++ (BX 2 ++ [])) ++ [] = _;rw [h1,h2];rfl
theorem Pq (w:World):(⟨exE,none,0⟩:At).ok Any w:=⟨⟨fun i s hi => by simp at hi,fun x hx => by cases hx⟩,fun _ => rfl,Nat.le_refl _,Nat.zero_le _,by decide⟩
theorem KI {G:List Nat} {E:Nat→Addr} (w:World) (hE:CK G E w) (i0:15 ∈ G) :
 Calls Tryz.prog 16 #[] w fun e w' => e = .returned (.bool true)∧Gr w w':=by
 have hp:=Lc 2 exE none 0 w (Pq w) hE i0 Oi;rw [Oj] at hp;have hr:∀ W:World,Calls Tryz.prog 62 #[.slice (some ⟨W.heap.size,0,none⟩) 3 3] (W.alloc (.cells #[.int .u8 2,.int .u8 1,.int .u8 2] 5)).drew fun e w' => ∃ a c,e = .returned (.slice a (Cy [2,1,2]).length c)∧Own (W.alloc (.cells #[.int .u8 2,.int .u8 1,.int .u8 2] 5)).drew w' a c (Cy [2,1,2]):=fun W =>
  K3 _ (some ⟨W.heap.size,0,none⟩) 3 [2,1,2] (Az.gr (An Bi W [2,1,2] _ _ rfl) ((Gr.refl _).drew)) (fun h => by cases h) (by decide)
 obtain ⟨L,hL⟩:=zE (Cy [2,1,2]);rw [← hL] at hp hr;refine AZ ?_ hp hr hL;clear hp hr hL;intro hp hr hL;go_enter Tryz.func16,Tryz.ntmps16;go_wp2_with fail;refine hp.out.mono ?_;rintro e w1 ⟨a1,c1,rfl,ho⟩;obtain ⟨-,hb,-,-,g1⟩:=ho;have q0:=DQ c1 (hb.gr ((Gr.refl w1).drew));have q1:=fun o => DQ c1 (hb.gr (((Gr.refl w1).alloc o).drew))
 replace hb:=zH hb;go_upto_region 2 with fail
 go_region_with (go_at_call 62;refine (hr.out _).mono ?_;rintro e w3 ⟨a3,c3,rfl,ho3⟩;have g3:Gr w1 w3:=(((Gr.refl w1).alloc _).drew).trans ho3.2.2.2.2;have q2:=DQ c3 ho3.2.1;have q3:=DQ c1 (hb.out.gr g3);replace ho3:=zH ho3);all_goals (go_wp2_with fail;go_ret;exact ⟨rfl,g1.trans g3⟩)
end Go.Proofs.YtdfelohjdkcpkaaGreatDoor
