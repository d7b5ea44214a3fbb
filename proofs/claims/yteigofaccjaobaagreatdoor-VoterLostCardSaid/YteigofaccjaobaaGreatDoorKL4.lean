/- wire.Reader: a number, as it is read. wire.Reader in memory; its number. wire.Reader: Num, Bytes, Left, End, NewReader. -/
import Derived.Test.YteigofaccjaobaaGreatDoorKL3
import Derived.IntWalk
import Derived.ProofKit
import Derived.OpenShut
import Derived.Deep.DeepHandedRow
import Derived.Deep.DeepWitnessRowRef
import Derived.LaidLaws
import Derived.LaidMore
import Derived.MakeChecks
import Derived.Deep.Slices
import Derived.Deep.Fields
import Derived.Lib.SmallJoins
namespace Go.Proofs.YteigofaccjaobaaGreatDoor
open Go.RowKit
def rdN:Nat→List UInt8→Option (Nat × Nat)
 | 0,_ => none
 | _ + 1,[] => none
 | f + 1,c :: l => if c.toNat < 128 then some (c.toNat,1) else (rdN f l).map fun q => (c.toNat - 128 + 128 * q.1,q.2 + 1)
def numR (l:List UInt8):Option (Nat × Nat):=match rdN 9 l with
 | none => none
 | some q => if l[q.2 - 1]? = some 0∧q.2 ≠ 1 then none else some q
theorem rdN_bd:∀ (f:Nat) (l:List UInt8) (q:Nat × Nat),rdN f l = some q→q.1 < 128 ^ f∧1≤q.2∧q.2≤f∧q.2≤l.length
 | 0,_,_,h => by cases h
 | f + 1,[],_,h => by cases h
 | f + 1,c :: l,q,h => by
  unfold rdN at h;have hp:0 < 128 ^ f:=Nat.pow_pos (by decide);split at h
  ·cases h
   rw [Nat.pow_succ];refine ⟨by show c.toNat < _;omega,Nat.le_refl _,by omega,by simp⟩
  ·obtain ⟨x,hx,rfl⟩:=Option.map_eq_some_iff.1 h;obtain ⟨h1,h2,h3,h4⟩:=rdN_bd f l x hx;have:=c.toNat_lt;rw [Nat.pow_succ];refine ⟨by show c.toNat - 128 + 128 * x.1 < _;omega,by show 1≤x.2 + 1;omega,by show x.2 + 1≤_;omega,by simp only [List.length_cons];omega⟩
theorem numB_fuel:∀ (f n:Nat) (r:List UInt8),n < 128 ^ f→0 < f→rdN f (numB n ++ r) = some (n,(numB n).length)
 | 0,_,_,_,h => by omega
 | f + 1,n,r,h,_ => by
  by_cases hs:n < 128
  ·have ht:(UInt8.ofNat n).toNat = n:=by rw [UInt8.toNat_ofNat'];omega
   rw [numB_small hs];show (if (UInt8.ofNat n).toNat < 128 then _ else _) = _;rw [ht,if_pos hs];rfl
  ·have ht:(UInt8.ofNat (n % 128 + 128)).toNat = n % 128 + 128:=by rw [UInt8.toNat_ofNat'];omega
   rw [numB_great hs];show (if (UInt8.ofNat (n % 128 + 128)).toNat < 128 then _ else (rdN f (numB (n / 128) ++ r)).map fun q => ((UInt8.ofNat (n % 128 + 128)).toNat - 128 + 128 * q.1,q.2 + 1)) = _;have hf:0 < f:=by
    rcases Nat.eq_zero_or_pos f with h0 | h0
    ·subst h0;rw [Nat.pow_succ] at h;simp at h;omega
    ·exact h0
   have hd:n / 128 < 128 ^ f:=by rw [Nat.pow_succ] at h;omega
   rw [ht,if_neg (by omega),numB_fuel f (n / 128) r hd hf];show some (_,_) = _;congr 2
   ·omega
theorem numB_last:∀ (k n:Nat),n < 128 ^ (k + 1)→(numB n)[(numB n).length - 1]? = some 0→n = 0
 | k,n,hk,h => by
  by_cases hs:n < 128
  ·rw [numB_small hs] at h;have hq:UInt8.ofNat n = 0:=by simpa using h
   have ht:(UInt8.ofNat n).toNat = n:=by rw [UInt8.toNat_ofNat'];omega
   rw [hq] at ht;simpa using ht.symm
  ·have hl:1≤(numB (n / 128)).length:=by
    by_cases hs2:n / 128 < 128
    ·rw [numB_small hs2];simp
    ·rw [numB_great hs2];simp
   rw [numB_great hs] at h;simp only [List.length_cons,Nat.add_sub_cancel] at h;rw [List.getElem?_cons] at h;rw [if_neg (by omega)] at h;cases k with
   | zero => simp at hk;omega
   | succ k =>
    have:=numB_last k (n / 128) (by rw [Nat.pow_succ] at hk;omega) h;omega
theorem numR_put {n:Nat} (h:n < 9223372036854775808) (r:List UInt8):numR (numB n ++ r) = some (n,(numB n).length):=by
 unfold numR;rw [numB_fuel 9 n r (by omega) (by decide)];have hl:1≤(numB n).length:=by
  by_cases hs2:n < 128
  ·rw [numB_small hs2];simp
  ·rw [numB_great hs2];simp
 show (if _∧_ then _ else _) = _;rw [if_neg];rintro ⟨h0,h1⟩;dsimp only at h0 h1;rw [List.getElem?_append_left (by omega)] at h0;have:=numB_last 9 n (by omega) h0;subst this;rw [numB_small (by decide)] at h1;exact h1 rfl
theorem rdN_put:∀ (f:Nat) (l:List UInt8) (q:Nat × Nat),rdN f l = some q→¬ (l[q.2 - 1]? = some 0∧q.2 ≠ 1)→l = numB q.1 ++ l.drop q.2∧q.2 = (numB q.1).length
 | 0,_,_,h,_ => by cases h
 | f + 1,[],_,h,_ => by cases h
 | f + 1,c :: l,q,h,hn => by
  unfold rdN at h;split at h
  ·rename_i hc;cases h
   rw [numB_small hc];have:UInt8.ofNat c.toNat = c:=by simp
   rw [this];exact ⟨rfl,rfl⟩
  ·rename_i hc;obtain ⟨x,hx,rfl⟩:=Option.map_eq_some_iff.1 h;obtain ⟨h1,h2,h3,h4⟩:=rdN_bd f l x hx;dsimp only at hn ⊢;have hn2:¬ (l[x.2 - 1]? = some 0):=by
    intro h0;apply hn;refine ⟨?_,by omega⟩;rw [show x.2 + 1 - 1 = (x.2 - 1) + 1 by omega,List.getElem?_cons_succ];exact h0
   obtain ⟨i1,i2⟩:=rdN_put f l x hx (fun hh => hn2 hh.1);have hx1:x.1 ≠ 0:=by
    intro h0;rw [h0,numB_small (by decide)] at i1 i2;apply hn2;rw [i2,i1];simp
   have hct:=c.toNat_lt;have hg:¬ c.toNat - 128 + 128 * x.1 < 128:=by omega
   rw [numB_great hg];have e1:(c.toNat - 128 + 128 * x.1) % 128 + 128 = c.toNat:=by omega
   have e2:(c.toNat - 128 + 128 * x.1) / 128 = x.1:=by omega
   rw [e1,e2];have:UInt8.ofNat c.toNat = c:=by simp
   rw [this,List.drop_succ_cons,List.cons_append,← i1];exact ⟨rfl,by rw [List.length_cons,← i2]⟩
theorem numR_get {l:List UInt8} {v k:Nat} (h:numR l = some (v,k)):l = numB v ++ l.drop k∧k = (numB v).length∧v < 9223372036854775808:=by
 unfold numR at h;split at h
 ·cases h
 ·rename_i q hq;split at h
  ·cases h
  ·rename_i hn;cases h
   obtain ⟨h1,h2⟩:=rdN_put 9 l _ hq hn;have:=(rdN_bd 9 l _ hq).1;exact ⟨h1,h2,by dsimp only at this;omega⟩
def RdAt (K:Nat→Prop) (w:World) (rb:Nat) (p:List UInt8) (at_:Nat):Prop:=∃ a c,Blk w rb #[.slice a p.length c,.int .i64 at_] 227∧BytesAt w a p∧(a = none→c = 0)∧(∀ x,a = some x→x.block ≠ rb∧K x.block)∧at_≤p.length∧p.length≤c∧p.length≤100000
theorem RdAt.gr {K:Nat→Prop} {w w':World} {rb:Nat} {p:List UInt8} {at_:Nat} (h:RdAt K w rb p at_) (g:Gr w w'):RdAt K w' rb p at_:=by
 obtain ⟨a,c,h1,h2,h3⟩:=h;exact ⟨a,c,h1.gr g,h2.gr g,h3⟩
theorem RdAt.mono {K K':Nat→Prop} {w:World} {rb:Nat} {p:List UInt8} {at_:Nat} (h:RdAt K w rb p at_) (hk:∀ b,K b→K' b):RdAt K' w rb p at_:=by
 obtain ⟨a,c,h1,h2,h3,h4,h5⟩:=h;exact ⟨a,c,h1,h2,h3,fun x hx => ⟨(h4 x hx).1,hk _ (h4 x hx).2⟩,h5⟩
theorem RdAt.grx {K:Nat→Prop} {S:List Nat} {w w':World} {rb:Nat} {p:List UInt8} {at_:Nat} (h:RdAt K w rb p at_) (g:GrX S w w') (h1:rb ∉ S) (h2:∀ b,K b→b ∉ S):RdAt K w' rb p at_:=by
 obtain ⟨a,c,e1,e2,e3,e4,e5⟩:=h;exact ⟨a,c,e1.grx g h1,e2.same g.size (fun x hx hl => g.block _ (RecsAt.lt e2 hx hl) (h2 _ (e4 x hx).2)),e3,e4,e5⟩
def NumP (l:List UInt8) (at_:Nat) (w:World) (e:Ending) (w':World):Prop:=w = w'∧match numR l with
 | some q => e = .returned (.tuple #[.int .i64 q.1,.int .i64 ((at_ + q.2:Nat):Int),.bool true])
 | none => ∃ a b:Int,e = .returned (.tuple #[.int .i64 a,.int .i64 b,.bool false])
theorem wraps_i64 (n:Int) (h₀:0≤n) (h₁:n < 2 ^ 63):IntKind.i64.wrap n = n:=by rw [IntKind.wrap_i64];omega
theorem or64 (i:Nat) (hi:i≤63) {x y:Nat} (hx:x < 2 ^ i) (hy:y * 2 ^ i < 2 ^ 63):bits .or .i64 (x:Int) ((y * 2 ^ i:Nat):Int) = ((x + y * 2 ^ i:Nat):Int):=by
 have h1:2 ^ i≤2 ^ 63:=Nat.pow_le_pow_right (by decide) hi;rw [(bits_nat .i64 63 (by decide) wraps_i64 x (y * 2 ^ i) (Nat.lt_of_lt_of_le hx h1) hy).2,Nat.or_comm,Nat.mul_comm,← Nat.two_pow_add_eq_or_of_lt hx y,Nat.add_comm]
theorem p128 (k:Nat):128 ^ k = 2 ^ (7 * k):=by rw [Nat.pow_mul]
theorem acc_step {k acc m:Nat} (hk:k < 9) (ha:acc < 128 ^ k) (hm:m < 128):bits .or .i64 (acc:Int) (wrap64 ((m:Int) * 2 ^ (7 * k))) = ((acc + 128 ^ k * m:Nat):Int)∧acc + 128 ^ k * m < 128 ^ (k + 1):=by
 have h1:128 ^ k * (m + 1)≤128 ^ k * 128:=Nat.mul_le_mul_left _ hm;have h2:128 ^ (k + 1) = 128 ^ k * 128:=Nat.pow_succ ..;have h3:128 ^ (k + 1)≤128 ^ 9:=Nat.pow_le_pow_right (by decide) hk;have h4:(128:Nat) ^ 9 = 2 ^ 63:=by decide
 have h5:128 ^ k * (m + 1) = 128 ^ k * m + 128 ^ k:=by rw [Nat.mul_add,Nat.mul_one]
 refine ⟨?_,by omega⟩;have hc:(m:Int) * 2 ^ (7 * k) = ((m * 2 ^ (7 * k):Nat):Int):=by push_cast;rfl
 have hlt:m * 2 ^ (7 * k) < 2 ^ 63:=by rw [Nat.mul_comm,← p128];omega
 have hw:wrap64 ((m * 2 ^ (7 * k):Nat):Int) = ((m * 2 ^ (7 * k):Nat):Int):=by
  generalize m * 2 ^ (7 * k) = z at *;unfold wrap64;have:(2:Nat) ^ 63 = 9223372036854775808:=by decide
  omega
 rw [hc,hw,or64 (7 * k) (by omega) (by rw [← p128];exact ha) hlt,← p128,Nat.mul_comm]
theorem and127b (d:UInt8):bits .and .u8 (d.toNat:Int) 127 = ((d.toNat % 128:Nat):Int):=by
 have:=bits_mask .u8 8 (by decide) wraps_u8 7 (by decide) (d.toNat:Int) (by omega) (by have:=d.toNat_lt;omega);exact this
theorem rdN_at {l:List UInt8} {k acc:Nat} {d:UInt8} (hk:k < 9) (hd:l[k]? = some d) (h:rdN 9 l = (rdN (9 - k) (l.drop k)).map fun q => (acc + 128 ^ k * q.1,q.2 + k)) :
 (d.toNat < 128→rdN 9 l = some (acc + 128 ^ k * d.toNat,k + 1))∧(¬ d.toNat < 128→rdN 9 l = (rdN (9 - (k + 1)) (l.drop (k + 1))).map fun q => (acc + 128 ^ k * (d.toNat % 128) + 128 ^ (k + 1) * q.1,q.2 + (k + 1))):=by
 have hdr:l.drop k = d :: l.drop (k + 1):=by
  have hlt:=get_lt hd;have he:l[k] = d:=by have:=List.getElem?_eq_getElem hlt;rw [hd] at this;exact (Option.some.inj this).symm
  rw [List.drop_eq_getElem_cons hlt,he]
 have hf:9 - k = (9 - (k + 1)) + 1:=by omega
 rw [hdr,hf] at h;have hdl:=d.toNat_lt;constructor
 ·intro h1;rw [h];show ((if d.toNat < 128 then some (d.toNat,1) else _).map _) = _;rw [if_pos h1];show some (_,_) = _;rw [Nat.add_comm 1 k]
 ·intro h1;rw [h];show ((if d.toNat < 128 then some (d.toNat,1) else (rdN (9 - (k + 1)) (l.drop (k + 1))).map fun q => (d.toNat - 128 + 128 * q.1,q.2 + 1)).map _) = _;rw [if_neg h1,Option.map_map];congr 1;funext q;show (_,_) = (_,_)
  rw [show d.toNat % 128 = d.toNat - 128 by omega,Nat.pow_succ,Nat.mul_add,Nat.mul_assoc,Nat.add_assoc,Nat.add_assoc];rw [Nat.add_comm 1 k]
theorem rdN_end {l:List UInt8} {k acc:Nat} (hd:l[k]? = none) (h:rdN 9 l = (rdN (9 - k) (l.drop k)).map fun q => (acc + 128 ^ k * q.1,q.2 + k)):numR l = none:=by
 have h0:l.drop k = []:=List.drop_eq_nil_of_le (List.getElem?_eq_none_iff.1 hd);rw [h0] at h;unfold numR;rw [h];cases hk:9 - k <;> rfl
theorem rdN_nine {l:List UInt8} {acc:Nat} (h:rdN 9 l = (rdN (9 - 9) (l.drop 9)).map fun q => (acc + 128 ^ 9 * q.1,q.2 + 9)):numR l = none:=by
 unfold numR;rw [h];rfl
theorem numR_at {l:List UInt8} {k s:Nat} {d:UInt8} (hd:l[k]? = some d) (h:rdN 9 l = some (s,k + 1)):numR l = if d.toNat = 0∧k ≠ 0 then none else some (s,k + 1):=by
 unfold numR;rw [h];show (if l[k]? = some 0∧k + 1 ≠ 1 then none else some (s,k + 1)) = _;rw [hd];have:(some d = some (0:UInt8)∧k + 1 ≠ 1) ↔ (d.toNat = 0∧k ≠ 0):=by
  constructor
  ·rintro ⟨h1,h2⟩;cases h1;exact ⟨rfl,by omega⟩
  ·rintro ⟨h1,h2⟩;exact ⟨by congr 1;exact UInt8.toNat.inj h1,by omega⟩
 by_cases hh:d.toNat = 0∧k ≠ 0
 ·rw [if_pos hh,if_pos (this.2 hh)]
 ·rw [if_neg hh,if_neg (fun e => hh (this.1 e))]
set_option maxRecDepth 100000 in
set_option maxHeartbeats 3200000 in
theorem number_any {K:Nat→Prop} (w:World) (rb:Nat) (p:List UInt8) (at_:Nat) (h:RdAt K w rb p at_) :
 Calls Tryz.prog 161 #[.pointer (some ⟨rb,0,none⟩),.int .i64 at_] w (NumP (p.drop at_) at_ w):=by
 obtain ⟨a,c,hb,hr,hcn,hax,hat,hpc,hpm⟩:=h;have c0:=hb.cell (i:=0) (v:=.slice a p.length c) rfl;have hz:=hb.lt;have h0:rdN 9 (p.drop at_) = (rdN (9 - 0) ((p.drop at_).drop 0)).map fun q => (0 + 128 ^ 0 * q.1,q.2 + 0):=by simp
 replace hb:=Lib.hid hb;replace hax:=Lib.hid hax;replace hcn:=Lib.hid hcn;go_enter Tryz.func161,Tryz.ntmps161;go_wp2_with fail;go_loop [7,10] (fun nv iv => ∃ (k acc:Nat),nv = .int .i64 acc∧iv = .int .i64 k∧k≤9∧Hid (acc < 128 ^ k)∧Hid (rdN 9 (p.drop at_) = (rdN (9 - k) ((p.drop at_).drop k)).map fun q => (acc + 128 ^ k * q.1,q.2 + k))) (fun _ iv => 9 - (intOf iv).toNat);case atStart => exact ⟨0,0,rfl,rfl,by omega,Lib.hid (by decide),Lib.hid h0⟩
 case round =>
  obtain ⟨k,acc,rfl,rfl,hk9,hacc,heq⟩:=hrel;by_cases hk:k < 9
  ·cases hc:p[at_ + k]? with
   | none =>
    have hlen:p.length≤at_ + k:=List.getElem?_eq_none_iff.1 hc;have hnum:=rdN_end (l:=p.drop at_) (k:=k) (by rw [List.getElem?_drop];exact hc) heq.out;replace hnum:=Lib.hid hnum;replace hc:=Lib.hid hc;go_wp2_with fail;go_ret3;exact ⟨rfl,by rw [hnum.out];exact ⟨_,_,rfl⟩⟩
   | some d =>
    have hlen:=get_lt hc;obtain ⟨b,off,rfl,hbl,hcell⟩:=hr.get hc;have hdb:=d.toNat_lt;have hdl:(p.drop at_)[k]? = some d:=by rw [List.getElem?_drop];exact hc
    obtain ⟨m,hm⟩:∃ m,d.toNat % 128 = m:=⟨_,rfl⟩
    have hm1:m≤127:=by omega
    have hand:bits .and .u8 (d.toNat:Int) 127 = (m:Int):=by rw [and127b,hm]
    obtain ⟨hor,hs9⟩:=acc_step (m:=m) hk hacc.out (by omega);obtain ⟨s,hs⟩:∃ s,acc + 128 ^ k * m = s:=⟨_,rfl⟩
    rw [hs] at hor hs9;obtain ⟨r1,r2⟩:=rdN_at hk hdl heq.out;by_cases hd:d.toNat < 128
    ·have hmd:m = d.toNat:=by omega
     have r3:=numR_at hdl (r1 hd);rw [← hmd,hs] at r3;clear r1 r2 hs9;have hd7:(d.toNat:Int) < 128:=by omega
     obtain ⟨n,hn⟩:∃ n,d.toNat = n:=⟨_,rfl⟩
     rw [hn] at hcell hand hd7 hdb;rw [hmd,hn] at r3;replace hs:=Lib.hid hs;replace hm:=Lib.hid hm;replace hmd:=Lib.hid hmd;replace hn:=Lib.hid hn;replace hdl:=Lib.hid hdl;replace hc:=Lib.hid hc;by_cases hz:n = 0
     ·have hz1:((n:Int) != 0) = false:=by rw [hz];rfl
      by_cases hk0:k = 0
      ·rw [if_neg (by omega)] at r3;have hk1:((k:Int) == 0) = true:=beq_iff_eq.2 (by omega);replace r3:=Lib.hid r3;replace hk0:=Lib.hid hk0;replace hz:=Lib.hid hz;go_wp2_with fail;go_ret3;exact ⟨rfl,by rw [r3.out];rfl⟩
      ·rw [if_pos ⟨hz,hk0⟩] at r3;replace r3:=Lib.hid r3;have hk1:((k:Int) == 0) = false:=beq_eq_false_iff_ne.2 (by omega);replace hz:=Lib.hid hz;go_wp2_with fail;go_ret3;exact ⟨rfl,by rw [r3.out];exact ⟨_,_,rfl⟩⟩
     ·rw [if_neg (by omega)] at r3;replace r3:=Lib.hid r3;have hz1:((n:Int) != 0) = true:=bne_iff_ne.2 (by omega);go_wp2_with fail;go_ret3;exact ⟨rfl,by rw [r3.out];rfl⟩
    ·have r3:=r2 hd;rw [hm,hs] at r3;have hd7:¬ (d.toNat:Int) < 128:=by omega
     replace r3:=Lib.hid r3;clear r1 r2;replace hs9:=Lib.hid hs9;replace hs:=Lib.hid hs;replace hm:=Lib.hid hm;replace hdl:=Lib.hid hdl;replace hc:=Lib.hid hc;go_wp2_with fail;go_round;case rel => exact ⟨k + 1,s,rfl,by go_num,by omega,hs9,r3⟩
     case measure => simp [intOf];omega
  ·obtain rfl:k = 9:=by omega
   have hnum:=rdN_nine heq.out;replace hnum:=Lib.hid hnum;go_wp2_with fail;go_ret3;exact ⟨rfl,by rw [hnum.out];exact ⟨_,_,rfl⟩⟩
theorem numR_bd {l:List UInt8} {q:Nat × Nat} (h:numR l = some q):q.1 < 9223372036854775808∧1≤q.2∧q.2≤9∧q.2≤l.length:=by
 unfold numR at h;split at h
 ·cases h
 ·rename_i x hx;split at h
  ·cases h
  ·cases h
   obtain ⟨h1,h2,h3,h4⟩:=rdN_bd 9 l _ hx;exact ⟨h1,h2,h3,h4⟩
theorem number_yes {K:Nat→Prop} (w:World) (rb:Nat) (p:List UInt8) (at_:Nat) (h:RdAt K w rb p at_) {v k:Nat} (hq:numR (p.drop at_) = some (v,k)) :
 Calls Tryz.prog 161 #[.pointer (some ⟨rb,0,none⟩),.int .i64 at_] w fun e w' => e = .returned (.tuple #[.int .i64 v,.int .i64 ((at_ + k:Nat):Int),.bool true])∧w = w' :=
 (number_any w rb p at_ h).mono fun e w' ⟨h1,h2⟩ => by rw [hq] at h2;exact ⟨h2,h1⟩
theorem number_no {K:Nat→Prop} (w:World) (rb:Nat) (p:List UInt8) (at_:Nat) (h:RdAt K w rb p at_) (hq:numR (p.drop at_) = none) :
 Calls Tryz.prog 161 #[.pointer (some ⟨rb,0,none⟩),.int .i64 at_] w fun e w' => ∃ a b:Int,e = .returned (.tuple #[.int .i64 a,.int .i64 b,.bool false])∧w = w' :=
 (number_any w rb p at_ h).mono fun e w' ⟨h1,h2⟩ => by rw [hq] at h2;obtain ⟨a,b,h3⟩:=h2;exact ⟨a,b,h3,h1⟩
set_option maxRecDepth 100000 in
set_option maxHeartbeats 1600000 in
theorem rnum_yes {K:Nat→Prop} (w:World) (rb:Nat) (p:List UInt8) (at_:Nat) (most:Int) (h:RdAt K w rb p at_) {v k:Nat} (hq:numR (p.drop at_) = some (v,k)) (hm:(v:Int)≤most) :
 Calls Tryz.prog 127 #[.pointer (some ⟨rb,0,none⟩),.int .i64 most] w fun e w' => e = .returned (.tuple #[.int .i64 v,.nilIface])∧RdAt K w' rb p (at_ + k)∧GrX [rb] w w':=by
 have hn:=number_yes w rb p at_ h hq;have hkb:=(numR_bd hq).2.2.2;rw [List.length_drop] at hkb;obtain ⟨a,c,hb,hr,hcn,hax,hat,hpc,hpm⟩:=h;have c1:=hb.cell (i:=1) (v:=.int .i64 at_) rfl;have f1:=hb.free 1;have hz:=hb.lt;dsimp only at hkb;replace hn:=Lib.hid hn;replace hb:=Lib.hid hb;replace hax:=Lib.hid hax;replace hcn:=Lib.hid hcn;replace hr:=Lib.hid hr;replace hq:=Lib.hid hq;obtain ⟨t,ht⟩:∃ t:Int,((at_ + k:Nat):Int) = t:=⟨_,rfl⟩
 rw [ht] at hn;replace ht:=Lib.hid ht;go_enter Tryz.func127,Tryz.ntmps127;go_wp2_with fail;refine (hn.out).mono ?_;rintro e wa ⟨rfl,rfl⟩;go_wp2_with fail;go_ret2;refine ⟨rfl,⟨a,c,?_,hr.out.set (fun x hx => (hax.out x hx).1) _,hcn.out,hax.out,by omega,hpc,hpm⟩,(GrX.refl _ _).set (.inl (by simp)) _⟩;have:=hb.out.set 1 (.int .i64 t);rw [ht.out];exact this
set_option maxRecDepth 100000 in
set_option maxHeartbeats 1600000 in
theorem rnum_no {K:Nat→Prop} {G:List Nat} {E:Nat→Addr} (w:World) (rb:Nat) (p:List UInt8) (at_:Nat) (most:Int) (h:RdAt K w rb p at_) (hE:EAt G E w) (i1:3 ∈ G) (hq:∀ v k,numR (p.drop at_) = some (v,k)→most < v) :
 Calls Tryz.prog 127 #[.pointer (some ⟨rb,0,none⟩),.int .i64 most] w fun e w' => e = .returned (.tuple #[.int .i64 0,(Value.iface 297 (.pointer (some (E 3))))])∧Gr w w':=by
 have he:=hE.c0 i1;have h0:=h;obtain ⟨a,c,hb,hr,hcn,hax,hat,hpc,hpm⟩:=h;have c1:=hb.cell (i:=1) (v:=.int .i64 at_) rfl;have hz:=hb.lt;replace hb:=Lib.hid hb;replace hax:=Lib.hid hax;replace hcn:=Lib.hid hcn;replace hr:=Lib.hid hr;cases hn:numR (p.drop at_) with
 | none =>
  have hc:=number_no w rb p at_ h0 hn;replace hc:=Lib.hid hc;replace hn:=Lib.hid hn;replace hq:=Lib.hid hq;go_enter Tryz.func127,Tryz.ntmps127;go_wp2_with fail;refine hc.out.mono ?_;rintro e w1 ⟨x,y,rfl,rfl⟩;go_upto_region 3 with fail
  go_region;go_wp2_with fail;go_ret2;exact ⟨rfl,(by repeat (first | exact Gr.refl _ | apply Gr.alloc | apply Gr.drew | apply Gr.drewN | (refine Gr.setCell ?_ (by first | (simp;done) | (simp;omega)) _) | (refine Gr.trans ?_ (by assumption))))⟩
 | some q =>
  obtain ⟨v,k⟩:=q;have hm:=hq v k hn;have hc:=number_yes w rb p at_ h0 hn;obtain ⟨t,ht⟩:∃ t:Int,((at_ + k:Nat):Int) = t:=⟨_,rfl⟩
  rw [ht] at hc;replace ht:=Lib.hid ht;replace hc:=Lib.hid hc;replace hn:=Lib.hid hn;replace hq:=Lib.hid hq;go_enter Tryz.func127,Tryz.ntmps127;go_wp2_with fail;refine (hc.out).mono ?_;rintro e wa ⟨rfl,rfl⟩;go_upto_region 3 with fail
  go_region;go_wp2_with fail;go_ret2;exact ⟨rfl,(by repeat (first | exact Gr.refl _ | apply Gr.alloc | apply Gr.drew | apply Gr.drewN | (refine Gr.setCell ?_ (by first | (simp;done) | (simp;omega)) _) | (refine Gr.trans ?_ (by assumption))))⟩
set_option maxHeartbeats 1600000 in
theorem left_any {K:Nat→Prop} (w:World) (rb:Nat) (p:List UInt8) (at_:Nat) (h:RdAt K w rb p at_) :
 Calls Tryz.prog 163 #[.pointer (some ⟨rb,0,none⟩)] w fun e w' => e = .returned (.int .i64 ((p.length:Int) - at_))∧Gr w w':=by
 obtain ⟨a,c,hb,hr,hcn,hax,hat,hpc,hpm⟩:=h;have c0:=GrW.cell (hb.cell (i:=0) (v:=.slice a p.length c) rfl);have c1:=GrW.cell (hb.cell (i:=1) (v:=.int .i64 at_) rfl);have hz:=hb.lt;replace hb:=Lib.hid hb;replace hax:=Lib.hid hax;replace hcn:=Lib.hid hcn;replace hr:=Lib.hid hr;go_enter Tryz.func163,Tryz.ntmps163;go_upto_region 1 with fail
 refine wp_region_grows (by kernel_rfl) (by kernel_rfl) ?_;repeat (any_goals (first | go_big_quiet_step (first | fail) | quiet_step (first | fail)))
 refine wpQuiet_nil ?_;intro wz hwq;have gz:=GrW.of hwq;clear hwq;obtain ⟨cz,fz,sz⟩:=gz.cells;try simp only [size_drewN] at cz fz sz
 try simp only [World.size_alloc] at cz fz sz
 try simp only [World.size_drew] at cz fz sz
 try simp only [World.size_setCell] at cz fz sz
 go_wp2_with fail;go_ret;exact ⟨ret1 (by first | rfl | (rw [IntWalk.i64_in _ (by omega)])),gz⟩
set_option maxHeartbeats 1600000 in
theorem rend_yes {K:Nat→Prop} (w:World) (rb:Nat) (p:List UInt8) (h:RdAt K w rb p p.length) :
 Calls Tryz.prog 130 #[.pointer (some ⟨rb,0,none⟩)] w fun e w' => e = .returned .nilIface∧Gr w w':=by
 have hl:=left_any w rb p p.length h;rw [Int.sub_self] at hl;replace hl:=Lib.hid hl;replace h:=Lib.hid h;go_enter Tryz.func130,Tryz.ntmps130;go_wp2_with fail;refine (hl.out).mono ?_;rintro e wa ⟨rfl,ga⟩;obtain ⟨ca,fa,sa⟩:=ga.cells;try simp only [size_drewN] at ca fa sa
 try simp only [World.size_alloc] at ca fa sa
 try simp only [World.size_drew] at ca fa sa
 try simp only [World.size_setCell] at ca fa sa
 go_wp2_with fail;go_ret;exact ⟨rfl,ga⟩
set_option maxHeartbeats 1600000 in
theorem rend_no {K:Nat→Prop} {G:List Nat} {E:Nat→Addr} (w:World) (rb:Nat) (p:List UInt8) (at_:Nat) (h:RdAt K w rb p at_) (hlt:at_ < p.length) (hE:EAt G E w) (i1:3 ∈ G) :
 Calls Tryz.prog 130 #[.pointer (some ⟨rb,0,none⟩)] w fun e w' => e = .returned (Value.iface 297 (.pointer (some (E 3))))∧Gr w w':=by
 have hl:=left_any w rb p at_ h;have hlt2:decide ((0:Int) < (p.length:Int) - at_) = true:=decide_eq_true (by omega);obtain ⟨d,hd⟩:∃ d:Int,(p.length:Int) - at_ = d:=⟨_,rfl⟩
 rw [hd] at hl hlt2;replace hd:=Lib.hid hd;replace hl:=Lib.hid hl;replace h:=Lib.hid h;go_enter Tryz.func130,Tryz.ntmps130;go_wp2_with fail;refine (hl.out).mono ?_;rintro e wa ⟨rfl,ga⟩;obtain ⟨ca,fa,sa⟩:=ga.cells;try simp only [size_drewN] at ca fa sa
 try simp only [World.size_alloc] at ca fa sa
 try simp only [World.size_drew] at ca fa sa
 try simp only [World.size_setCell] at ca fa sa
 have he:=(hE.gr ga).c0 i1;clear ca fa;go_wp2_with fail;go_ret;exact ⟨rfl,ga⟩
def OwnX (W w:World) (a:Option Addr) (c:Nat) (l:List UInt8):Prop:=w.ownsRow W.heap.size 5 1 (.slice a l.length c) l.length (l.flatMap byteC)∧BytesAt w a l∧(a = none→c = 0)∧(∀ x,a = some x→W.heap.size≤x.block)
theorem Own.x {W w:World} {a:Option Addr} {c:Nat} {l:List UInt8} (h:Own W w a c l):OwnX W w a c l:=⟨h.1,h.2.1,h.2.2.1,h.2.2.2.1⟩
theorem OwnX.older {W W1 w:World} {a:Option Addr} {c:Nat} {l:List UInt8} (h:OwnX W1 w a c l) (g:W.heap.size≤W1.heap.size):OwnX W w a c l:=by
 obtain ⟨h1,h2,h3,h4⟩:=h;refine ⟨⟨h1.1,?_⟩,h2,h3,fun x hx => Nat.le_trans g (h4 x hx)⟩;rcases h1.2 with hn | ⟨b,cap,cur,e1,e2,e3⟩
 ·exact .inl hn
 ·exact .inr ⟨b,cap,cur,e1,Nat.le_trans g e2,e3⟩
theorem OwnX.gr {W w w':World} {a:Option Addr} {c:Nat} {l:List UInt8} (h:OwnX W w a c l) (g:Gr w w'):OwnX W w' a c l:=⟨owns_gr h.1 g,h.2.1.gr g,h.2.2⟩
theorem OwnX.cap {W w:World} {a:Option Addr} {c:Nat} {l:List UInt8} (h:OwnX W w a c l):l.length≤c:=by
 rcases h.1.2 with hn | ⟨g,cap,cur,hv,hg,hh,hn,_⟩
 ·have:=hn.2;omega
 ·cases hv;exact hn
theorem OwnX.lt {W w:World} {a:Option Addr} {c:Nat} {l:List UInt8} (h:OwnX W w a c l) {x:Addr} (hx:a = some x):x.block < w.heap.size:=(owns_lt h.1 _ (own_blk hx)).1
theorem owns_grx {S:List Nat} {w w':World} {base:Nat} {e:TypeId} {size:Nat} {v:Value} {n:Nat} {xs:List Value} (h:w.ownsRow base e size v n xs) (g:GrX S w w') (hS:∀ k,v.ownBlock = some k→k ∉ S):w'.ownsRow base e size v n xs:=by
 refine ⟨h.1,?_⟩;rcases h.2 with hn | ⟨b,cap,cur,h1,h2,h3,h4⟩
 ·exact .inl hn
 ·refine .inr ⟨b,cap,cur,h1,h2,?_,h4⟩;rw [g.block b (Array.getElem?_eq_some_iff.1 h3).1 (hS b (by rw [h1];rfl))];exact h3
theorem BytesAt.grx {S:List Nat} {w w':World} {a:Option Addr} {l:List UInt8} (h:BytesAt w a l) (g:GrX S w w') (hS:∀ x,a = some x→l ≠ []→x.block ∉ S):BytesAt w' a l :=
 h.same g.size (fun x hx hl => g.block _ (RecsAt.lt h hx hl) (hS x hx hl))
theorem OwnX.grx {S:List Nat} {W w w':World} {a:Option Addr} {c:Nat} {l:List UInt8} (h:OwnX W w a c l) (g:GrX S w w') (hS:∀ x,a = some x→x.block ∉ S):OwnX W w' a c l :=
 ⟨owns_grx h.1 g (fun k hk => by
  cases a with
  | none => cases hk
  | some x => cases hk;exact hS x rfl),h.2.1.grx g (fun x hx _ => hS x hx),h.2.2⟩
set_option maxRecDepth 100000 in
set_option maxHeartbeats 1600000 in
theorem rbytes_yes {K:Nat→Prop} (w:World) (rb:Nat) (p:List UInt8) (at_:Nat) (most:Int) (h:RdAt K w rb p at_) {n k:Nat} (hq:numR (p.drop at_) = some (n,k)) (hm:(n:Int)≤most) (hl:n≤p.length - (at_ + k)) :
 Calls Tryz.prog 128 #[.pointer (some ⟨rb,0,none⟩),.int .i64 most] w fun e w' => ∃ a c,e = .returned (.tuple #[.slice a n c,.nilIface])∧OwnX w w' a c ((p.drop (at_ + k)).take n)∧RdAt K w' rb p (at_ + k + n)∧GrX [rb] w w':=by
 have hn:=number_yes w rb p at_ h hq;have hkb:=(numR_bd hq).2.2.2;rw [List.length_drop] at hkb;obtain ⟨a,c,hb,hr,hcn,hax,hat,hpc,hpm⟩:=h;dsimp only at hkb;have c0:=hb.cell (i:=0) (v:=.slice a p.length c) rfl;have c1:=hb.cell (i:=1) (v:=.int .i64 at_) rfl;have f1:=hb.free 1;have hz:=hb.lt;obtain ⟨s,hs⟩:∃ s,at_ + k = s:=⟨_,rfl⟩
 rw [hs] at hn hl;have hsp:s≤p.length:=by omega
 have hns:s + n≤p.length:=by omega
 obtain ⟨w2,hw2⟩:∃ w2,w2 = w.setCell ⟨rb,1,none⟩ (.int .i64 ((s:Int) + n)):=⟨_,rfl⟩
 have hb2:Blk w2 rb #[.slice a p.length c,.int .i64 ((s:Int) + n)] 227:=by rw [hw2];exact hb.set 1 _
 have hr2:BytesAt w2 a p:=by rw [hw2];exact hr.set (fun x hx => (hax x hx).1) _
 have hg2:GrX [rb] w w2:=by rw [hw2];exact (GrX.refl _ _).set (.inl (by simp)) _
 have d0:=hb2.cell (i:=0) (v:=.slice a p.length c) rfl;have d1:=hb2.cell (i:=1) (v:=.int .i64 ((s:Int) + n)) rfl;have hpl:((p.drop s).take n).length = n:=by rw [List.length_take,List.length_drop];omega
 have hcl:∀ w3 b off,a = some ⟨b,off,none⟩→Gr w2 w3→Calls Tryz.prog 89 #[.slice (some ⟨b,off + s,none⟩) n (c - s)] w3 fun e w' => ∃ a' c',e = .returned (.slice a' n c')∧Own w3 w' a' c' ((p.drop s).take n):=fun w3 b off ha g3 => by
  subst ha;have:=cloneB_any w3 (some ⟨b,off + s,none⟩) (c - s) ((p.drop s).take n) (((hr2.drop s).take n).gr g3) (fun h => by cases h) (by omega)
  rwa [hpl] at this
 have hd:∀ x,a = some x→∃ b off,x = ⟨b,off,none⟩:=fun x hx => by
  have hne:p ≠ []:=by intro e;rw [e] at hsp;have:=(numR_bd hq).2.1;simp at hsp;dsimp only at this;omega
  obtain ⟨y,r,hyr⟩:=List.exists_cons_of_ne_nil hne;obtain ⟨b,off,hh,_⟩:=hr.get (i:=0) (d:=y) (by rw [hyr];rfl);exact ⟨b,off,by rw [hx] at hh;exact Option.some.inj hh⟩
 cases a with
 | none =>
  exfalso;have hne:p ≠ []:=by intro e;rw [e] at hsp;have:=(numR_bd hq).2.1;simp at hsp;dsimp only at this;omega
  obtain ⟨y,r,hyr⟩:=List.exists_cons_of_ne_nil hne;obtain ⟨b,off,hh,_⟩:=hr.get (i:=0) (d:=y) (by rw [hyr];rfl);cases hh
 | some x =>
  obtain ⟨b,off,rfl⟩:=hd x rfl;have hcl2:=fun w3 g3 => hcl w3 b off rfl g3
  clear hcl hd;have t1:(s:Int)≤(s:Int) + n:=by omega
  have t2:(s:Int) + n≤c:=by omega
  have t3:(s:Int) + n≤p.length:=by omega
  have t4:((s:Int) + n).toNat = s + n:=by omega
  have t5:¬ (p.length:Int) - s < n:=by omega
  have t6:s≤c:=by omega
  replace hn:=Lib.hid hn;replace hb:=Lib.hid hb;replace hb2:=Lib.hid hb2;replace hax:=Lib.hid hax;replace hcn:=Lib.hid hcn;replace hr:=Lib.hid hr;replace hr2:=Lib.hid hr2;replace hq:=Lib.hid hq;replace hs:=Lib.hid hs;replace hw2:=Lib.hid hw2;replace hpl:=Lib.hid hpl;replace hcl2:=Lib.hid hcl2;have hb3:Blk w2 rb #[.slice (some ⟨b,off,none⟩) p.length c,.int .i64 ((at_ + k + n:Nat):Int)] 227:=by
   have:=hb2.out;rw [show ((s:Int) + n) = ((at_ + k + n:Nat):Int) by have:=hs.out;omega] at this;exact this
  replace hb3:=Lib.hid hb3;by_cases hsc:s < c
  ·have hcl4:=hcl2.out w2.drew ((Gr.refl _).drew);replace hcl4:=Lib.hid hcl4;go_enter Tryz.func128,Tryz.ntmps128;go_wp2_with fail;refine (hn.out).mono ?_;rintro e wa ⟨rfl,rfl⟩;go_upto_region 5 with fail
   rw [← hw2.out];go_region_with (go_at_call 89;refine hcl4.out.mono ?_;rintro e w3 ⟨a3,c3,rfl,ho3⟩;replace ho3:=Lib.hid ho3);all_goals
    go_wp2_with fail;go_ret2;have g3:=hg2.trans (((Gr.refl w2).drew.trans ho3.out.2.2.2.2).x [rb]);have hox:=OwnX.older (W:=w) (W1:=w2.drew) ho3.out.x hg2.size;rw [← hs.out] at hox;exact ⟨a3,c3,rfl,hox,⟨_,_,hb3.out.gr ((Gr.refl w2).drew.trans ho3.out.2.2.2.2),hr2.out.gr ((Gr.refl w2).drew.trans ho3.out.2.2.2.2),hcn.out,hax.out,by have:=hs.out;omega,hpc,hpm⟩,g3⟩
  ·have hcl3:∀ w3:World,Calls Tryz.prog 89 #[.slice (some ⟨b,off,none⟩) n 0] w3 fun e w' => ∃ a' c',e = .returned (.slice a' n c')∧Own w3 w' a' c' ((p.drop s).take n):=fun w3 => by
    have h0:(p.drop s).take n = []:=List.length_eq_zero_iff.1 (by rw [hpl.out];omega);have:=cloneB_any w3 (some ⟨b,off,none⟩) 0 ((p.drop s).take n) (by rw [h0];exact fun i d hi => by simp at hi) (fun h => by cases h) (by rw [hpl.out];omega)
    rwa [hpl.out] at this
   replace hcl3:=Lib.hid (hcl3 w2.drew);have hsc2:¬ (s:Int) < c:=by omega
   go_enter Tryz.func128,Tryz.ntmps128;go_wp2_with fail;refine (hn.out).mono ?_;rintro e wa ⟨rfl,rfl⟩;go_upto_region 5 with fail
   rw [← hw2.out];go_region_with (go_at_call 89;refine hcl3.out.mono ?_;rintro e w3 ⟨a3,c3,rfl,ho3⟩;replace ho3:=Lib.hid ho3);all_goals
    go_wp2_with fail;go_ret2;have g3:=hg2.trans (((Gr.refl w2).drew.trans ho3.out.2.2.2.2).x [rb]);have hox:=OwnX.older (W:=w) (W1:=w2.drew) ho3.out.x hg2.size;rw [← hs.out] at hox;exact ⟨a3,c3,rfl,hox,⟨_,_,hb3.out.gr ((Gr.refl w2).drew.trans ho3.out.2.2.2.2),hr2.out.gr ((Gr.refl w2).drew.trans ho3.out.2.2.2.2),hcn.out,hax.out,by have:=hs.out;omega,hpc,hpm⟩,g3⟩
set_option maxRecDepth 100000 in
set_option maxHeartbeats 1600000 in
theorem rbytes_no {K:Nat→Prop} {G:List Nat} {E:Nat→Addr} (w:World) (rb:Nat) (p:List UInt8) (at_:Nat) (most:Int) (h:RdAt K w rb p at_) (hE:EAt G E w) (i1:3 ∈ G) (hq:∀ v k,numR (p.drop at_) = some (v,k)→most < v ∨ p.length - (at_ + k) < v) :
 Calls Tryz.prog 128 #[.pointer (some ⟨rb,0,none⟩),.int .i64 most] w fun e w' => e = .returned (.tuple #[.slice none 0 0,(Value.iface 297 (.pointer (some (E 3))))])∧Gr w w':=by
 have he:=hE.c0 i1;have h0:=h;obtain ⟨a,c,hb,hr,hcn,hax,hat,hpc,hpm⟩:=h;have c0:=hb.cell (i:=0) (v:=.slice a p.length c) rfl;have c1:=hb.cell (i:=1) (v:=.int .i64 at_) rfl;have hz:=hb.lt;replace hb:=Lib.hid hb;replace hax:=Lib.hid hax;replace hcn:=Lib.hid hcn;replace hr:=Lib.hid hr;cases hn:numR (p.drop at_) with
 | none =>
  have hc:=number_no w rb p at_ h0 hn;replace hc:=Lib.hid hc;replace hn:=Lib.hid hn;replace hq:=Lib.hid hq;go_enter Tryz.func128,Tryz.ntmps128;go_wp2_with fail;refine hc.out.mono ?_;rintro e w1 ⟨x,y,rfl,rfl⟩;go_upto_region 3 with fail
  go_region;go_wp2_with fail;go_ret2;exact ⟨rfl,(by repeat (first | exact Gr.refl _ | apply Gr.alloc | apply Gr.drew | apply Gr.drewN | (refine Gr.setCell ?_ (by first | (simp;done) | (simp;omega)) _) | (refine Gr.trans ?_ (by assumption))))⟩
 | some q =>
  obtain ⟨v,k⟩:=q;have hkb:=(numR_bd hn).2.2.2;rw [List.length_drop] at hkb;dsimp only at hkb;have hm:=hq v k hn;have hc:=number_yes w rb p at_ h0 hn;obtain ⟨s,hs⟩:∃ s,at_ + k = s:=⟨_,rfl⟩
  rw [hs] at hc hm;have hsp:s≤p.length:=by omega
  replace hs:=Lib.hid hs;replace hc:=Lib.hid hc;replace hn:=Lib.hid hn;replace hq:=Lib.hid hq;by_cases hmv:most < v
  ·replace hm:=Lib.hid hm;go_enter Tryz.func128,Tryz.ntmps128;go_wp2_with fail;refine (hc.out).mono ?_;rintro e wa ⟨rfl,rfl⟩;go_upto_region 3 with fail
   go_region;go_wp2_with fail;go_ret2;exact ⟨rfl,(by repeat (first | exact Gr.refl _ | apply Gr.alloc | apply Gr.drew | apply Gr.drewN | (refine Gr.setCell ?_ (by first | (simp;done) | (simp;omega)) _) | (refine Gr.trans ?_ (by assumption))))⟩
  ·have hlt:(p.length:Int) - s < v:=by omega
   replace hm:=Lib.hid hm;go_enter Tryz.func128,Tryz.ntmps128;go_wp2_with fail;refine (hc.out).mono ?_;rintro e wa ⟨rfl,rfl⟩;go_upto_region 3 with fail
   go_region;go_wp2_with fail;go_ret2;exact ⟨rfl,(by repeat (first | exact Gr.refl _ | apply Gr.alloc | apply Gr.drew | apply Gr.drewN | (refine Gr.setCell ?_ (by first | (simp;done) | (simp;omega)) _) | (refine Gr.trans ?_ (by assumption))))⟩
set_option maxHeartbeats 1600000 in
theorem newReader_any (w:World) (a:Option Addr) (c:Nat) (l:List UInt8) (h:BytesAt w a l) (hc:a = none→c = 0) (hm:l.length≤100000) :
 Calls Tryz.prog 90 #[.slice a l.length c] w fun e w' => ∃ rb,e = .returned (.pointer (some ⟨rb,0,none⟩))∧RdAt (fun b => b < w'.heap.size) w' rb l 0∧w.heap.size≤rb∧Gr w w':=by
 have hcl:=cloneB_any w a c l h hc (by omega);replace hcl:=Lib.hid hcl;replace h:=Lib.hid h;replace hc:=Lib.hid hc;go_enter Tryz.func90,Tryz.ntmps90;go_wp2_with fail;refine hcl.out.mono ?_;rintro e w1 ⟨a1,c1,rfl,h1⟩;have hx:=h1.x;have g:=h1.2.2.2.2;replace h1:=Lib.hid h1;go_wp2_with fail;go_ret;refine ⟨w1.heap.size,rfl,⟨a1,c1,Blk.new w1 _ _,hx.2.1.gr ((Gr.refl w1).alloc _),hx.2.2.1,fun x hxx => ?_,Nat.zero_le _,hx.cap,hm⟩,g.size,g.alloc _⟩;have:=hx.lt hxx;exact ⟨by omega,by simp;omega⟩
def numsR:Nat→List UInt8→Option (List Nat × Nat)
 | 0,_ => some ([],0)
 | m + 1,l => match numR l with
  | none => none
  | some q => if q.1≤1099511627776 then (numsR m (l.drop q.2)).map fun r => (q.1 :: r.1,q.2 + r.2) else none
theorem numsR_succ (m:Nat) (l:List UInt8):numsR (m + 1) l = match numR l with
 | none => none
 | some q => if q.1≤1099511627776 then (numsR m (l.drop q.2)).map fun r => (q.1 :: r.1,q.2 + r.2) else none:=rfl
theorem numsR_put:∀ (ns:List Nat) (r:List UInt8),(∀ n ∈ ns,n≤1099511627776)→numsR ns.length (ns.flatMap numB ++ r) = some (ns,(ns.flatMap numB).length)
 | [],_,_ => rfl
 | n :: ns,r,h => by
  have hn:=h n (List.mem_cons_self ..);have hi:=numsR_put ns r (fun x hx => h x (List.mem_cons_of_mem _ hx));rw [List.flatMap_cons,List.append_assoc,List.length_cons];rw [numsR_succ,numR_put (by omega)];show (if n≤1099511627776 then (numsR ns.length ((numB n ++ (ns.flatMap numB ++ r)).drop (numB n).length)).map _ else none) = _;rw [if_pos hn,List.drop_left,hi,List.length_append];rfl
theorem numsR_get:∀ (m:Nat) (l:List UInt8) (ns:List Nat) (k:Nat),numsR m l = some (ns,k)→ns.length = m∧(∀ n ∈ ns,n≤1099511627776)∧l = ns.flatMap numB ++ l.drop k∧k = (ns.flatMap numB).length
 | 0,l,ns,k,h => by cases h;exact ⟨rfl,(fun _ h => by cases h),rfl,rfl⟩
 | m + 1,l,ns,k,h => by
  rw [numsR_succ] at h;split at h
  ·cases h
  ·rename_i q hq;split at h
   ·rename_i hle;obtain ⟨x,hx,he⟩:=Option.map_eq_some_iff.1 h;cases he
    obtain ⟨h1,h2,h3,h4⟩:=numsR_get m (l.drop q.2) x.1 x.2 hx;obtain ⟨g1,g2,g3⟩:=numR_get (v:=q.1) (k:=q.2) hq;refine ⟨by simp [h1],fun n hn => ?_,?_,?_⟩
    ·rcases List.mem_cons.1 hn with rfl | hn
     ·exact hle
     ·exact h2 n hn
    ·rw [List.flatMap_cons,List.append_assoc,← List.drop_drop,← h3];exact g1
    ·rw [List.flatMap_cons,List.length_append,← g2,← h4]
   ·cases h
def over (cs:Array Value) (ns:List Nat):Array Value:=(ns.map (fun (n:Nat) => Value.int .i64 (n:Int)) ++ cs.toList.drop ns.length).toArray
theorem over_nil (cs:Array Value):over cs [] = cs:=by simp [over]
theorem over_size {cs:Array Value} {ns:List Nat} (h:ns.length≤cs.size):(over cs ns).size = cs.size:=by simp [over];omega
theorem over_set {cs:Array Value} {ns:List Nat} (h:ns.length < cs.size) (n:Nat):(over cs ns).setIfInBounds ns.length (.int .i64 (n:Int)) = over cs (ns ++ [n]):=by
 unfold over;rw [List.setIfInBounds_toArray,List.set_append_right _ _ (by simp)];congr 1;rw [List.length_map,Nat.sub_self,List.drop_eq_getElem_cons (by simpa using h),List.set_cons_zero];simp
theorem numsR_step {m:Nat} {l:List UInt8} {ns:List Nat} {k:Nat} (hi:ns.length < m) (h:numsR m l = (numsR (m - ns.length) (l.drop k)).map fun r => (ns ++ r.1,k + r.2)) :
 (numR (l.drop k) = none→numsR m l = none)∧(∀ v j,numR (l.drop k) = some (v,j)→1099511627776 < v→numsR m l = none) ∧
 (∀ v j,numR (l.drop k) = some (v,j)→v≤1099511627776→numsR m l = (numsR (m - (ns ++ [v]).length) (l.drop (k + j))).map fun r => ((ns ++ [v]) ++ r.1,(k + j) + r.2)):=by
 have hm:m - ns.length = (m - (ns.length + 1)) + 1:=by omega
 rw [hm,numsR_succ] at h;refine ⟨fun h1 => ?_,fun v j h1 h2 => ?_,fun v j h1 h2 => ?_⟩
 ·rw [h1] at h;exact h
 ·rw [h1] at h;dsimp only at h;rw [if_neg (by omega)] at h;exact h
 ·rw [h1] at h;dsimp only at h;rw [if_pos h2,Option.map_map] at h;rw [h,List.length_append,List.drop_drop];congr 1;funext r;show (_,_) = (_,_)
  rw [List.append_assoc,Nat.add_assoc];rfl
theorem numsR_done {m:Nat} {l:List UInt8} {ns:List Nat} {k:Nat} (hi:ns.length = m) (h:numsR m l = (numsR (m - ns.length) (l.drop k)).map fun r => (ns ++ r.1,k + r.2)):numsR m l = some (ns,k):=by
 rw [hi,Nat.sub_self] at h;rw [h];show some (_,_) = _;rw [List.append_nil,Nat.add_zero]
end Go.Proofs.YteigofaccjaobaaGreatDoor
namespace Go.Proofs.YteigofaccjaobaaGreatDoor
open Go.ChangeShapes Go.WideShapes Go.ChangeAt Go.RowKit Go.Deep
theorem own:ownKnob Tryz.prog.godebug = none:=by kernel_rfl
theorem laidOut:laidOutB Tryz.prog = true:=by kernel_rfl
theorem star : "*" ++ "errors.errorString" = "*errors.errorString" := by decide
theorem rowErr (u : TypeId) (h : Tryz.prog.typeName? 3 u = some "*errors.errorString") : u = 297 :=
 typeName_ptr_named (nm := "errors.errorString") (by rw [star]; kernel_rfl) (by kernel_rfl) (by decide) u (by rw [star]; exact h)
theorem cellsErr:Tryz.prog.cellsOf 321 = 1:=by kernel_rfl
theorem cellsStr:Tryz.prog.cellsOf 9 = 1:=by kernel_rfl
def sent (x : Nat × String × List UInt8) : String × DataW Unit := (x.2.1, .iface "*errors.errorString" (.ptr (.agg [.lit (.string x.2.2)])))
set_option maxRecDepth 100000 in
theorem sents_read {W:World} (L:List (Nat × String × List UInt8)) (hok:(L.all fun x => Tryz.prog.globalNamed x.2.1 == some x.1 && (Tryz.prog.globals[x.1]?).map (·.type) == some 31) = true):∀ ps,DataW.LaidVars Tryz.prog W (L.map sent) ps →
 (∀ b off,MemPlace.cell b off ∈ ps→(∃ c t,W.heap[b]? = some (.cells c t (0,0)))∧∀ u v,W.cell? ⟨b,off,none⟩ = some (.iface u v)→Value.okWide Tryz.prog W .any 0 u v) →
 ps.Nodup→∃ E:Nat→Addr,(∀ x ∈ L,W.cell? ⟨x.1,0,none⟩ = some (errAt E x.1)∧MemPlace.cell (E x.1).block (E x.1).off ∈ ps∧(E x.1).spot = none∧MemPlace.cell x.1 0 ∈ ps)∧∀ x ∈ L,∀ y ∈ L,x.1 ≠ y.1→E x.1 ≠ E y.1:=by
 induction L with
 | nil => intro ps _ _ _;exact ⟨fun _ => ⟨0,0,none⟩,(fun _ h => by cases h),(fun _ h => by cases h)⟩
 | cons x r ih =>
  intro ps h hrows hnd;simp only [List.all_cons,Bool.and_eq_true] at hok;obtain ⟨hx,hr⟩:=hok;simp only [beq_iff_eq] at hx;obtain ⟨g0,t0,cs0,f0,p0,q0,hg0,ht0,hv0,hd0,hq,e0⟩:=h;obtain rfl:=Option.some.inj (hx.1.symm.trans hg0);obtain rfl:=Option.some.inj (hx.2.symm.trans ht0);obtain ⟨l0⟩:=cs0;have ok0:∀ u v,l0 = [.iface u v]→Value.okWide Tryz.prog W .any 0 u v:=fun u v e => by
   subst e;subst e0;exact (hrows x.1 0 (by simp [MemPlace.row])).2 u v (by simpa using World.var?_cell hg0 hv0 0)
  obtain ⟨a0,s0,rfl,hc0,hs0,hz0,rfl⟩:=errorString_of_trod Tryz.underlying31 rowErr Tryz.underlying297 Tryz.underlying321 rfl rfl Tryz.underlying9 cellsErr cellsStr hd0 ok0;have hspot:a0.spot = none:=by
   unfold World.cell? at hc0;split at hc0
   ·split at hc0
    ·cases hc0
    ·rename_i hh;simpa using hh
   ·cases hc0
  subst e0;have m0:MemPlace.cell a0.block a0.off ∈ MemPlace.row ⟨x.1,0,none⟩ 1 ++ MemPlace.row a0 1 ++ q0:=by simp [MemPlace.row]
  have m1:MemPlace.cell x.1 0 ∈ MemPlace.row ⟨x.1,0,none⟩ 1 ++ MemPlace.row a0 1 ++ q0:=by simp [MemPlace.row]
  have sub:∀ p ∈ q0,p ∈ MemPlace.row ⟨x.1,0,none⟩ 1 ++ MemPlace.row a0 1 ++ q0:=fun p hp => List.mem_append_right _ hp
  have ndq:q0.Nodup:=List.Nodup.sublist (List.sublist_append_right _ _) hnd;obtain ⟨E,hE,hne⟩:=ih hr q0 hq (fun b off hm => hrows b off (sub _ hm)) ndq;have notin:∀ y ∈ r,E y.1 ≠ a0:=fun y hy e => by
   have hm:=(hE y hy).2.1;rw [e] at hm;rw [List.append_assoc,List.nodup_append,List.nodup_append] at hnd;exact hnd.2.1.2.2 _ (by simp [MemPlace.row]) _ hm rfl
  refine ⟨fun g => if g = x.1 then a0 else E g,fun y hy => ?_,fun y hy z hz hyz => ?_⟩
  ·by_cases hyx:y.1 = x.1
   ·simp only [hyx,if_true,errAt];exact ⟨by simpa using World.var?_cell hg0 hv0 0,m0,hspot,m1⟩
   ·have hyr:y ∈ r:=by
     rcases List.mem_cons.1 hy with rfl | h
     ·exact absurd rfl hyx
     ·exact h
    have:=hE y hyr;simp only [hyx,if_false,errAt];exact ⟨this.1,sub _ this.2.1,this.2.2.1,sub _ this.2.2.2⟩
  ·have inr:∀ y ∈ x :: r,y.1 ≠ x.1→y ∈ r:=fun y hy hyx => by
    rcases List.mem_cons.1 hy with rfl | h
    ·exact absurd rfl hyx
    ·exact h
   by_cases hyx:y.1 = x.1
   ·have hzx:z.1 ≠ x.1:=fun e => hyz (hyx.trans e.symm)
    simp only [hyx,hzx,if_true,if_false];exact fun e => notin z (inr z hz hzx) e.symm
   ·by_cases hzx:z.1 = x.1
    ·simp only [hyx,hzx,if_true,if_false];exact notin y (inr y hy hyx)
    ·simp only [hyx,hzx,if_false];exact hne y (inr y hy hyx) z (inr z hz hzx) hyz
theorem eat_of_laid {W:World} (L:List (Nat × String × List UInt8)) (hok:(L.all fun x => Tryz.prog.globalNamed x.2.1 == some x.1 && (Tryz.prog.globals[x.1]?).map (·.type) == some 31) = true) (hpl:((L.map sent).all fun x => x.2.handleName?.isNone) = true) (h:laidMetH Tryz.prog (L.map sent) W) :
 ∃ E,EAt (L.map (·.1)) E W:=by
 rw [MakeChecks.laidMetH_plain _ _ _ hpl] at h;obtain ⟨ps,hv,hnd,hrows⟩:=h;obtain ⟨E,hE,hne⟩:=sents_read L hok ps hv hrows hnd;have get:∀ g,g ∈ L.map (·.1)→∃ x ∈ L,x.1 = g:=fun g hg => by simpa using hg
 have lt_of:∀ b off,MemPlace.cell b off ∈ ps→b < W.heap.size:=fun b off hm => by
  obtain ⟨c,t,e⟩:=(hrows b off hm).1;exact (Array.getElem?_eq_some_iff.1 e).1
 refine ⟨E,⟨fun g hg => ?_,fun g hg => ?_,fun g hg => ?_,fun g hg => ?_,fun g k hg hk hn => ?_⟩⟩
 ·obtain ⟨x,hx,rfl⟩:=get g hg;exact lt_of _ _ (hE x hx).2.2.2
 ·obtain ⟨x,hx,rfl⟩:=get g hg;exact lt_of _ _ (hE x hx).2.1
 ·obtain ⟨x,hx,rfl⟩:=get g hg;exact (hE x hx).1
 ·obtain ⟨x,hx,rfl⟩:=get g hg;exact (hrows _ _ (hE x hx).2.1).1
 ·obtain ⟨x,hx,rfl⟩:=get g hg;obtain ⟨y,hy,rfl⟩:=get k hk;exact hne x hx y hy hn
section
variable {H:Type} {enc:TypeId × Value→H} {P:Program} {w:World} {base:Nat} {spare:Nat→Bool} {held:Bool}
end
end Go.Proofs.YteigofaccjaobaaGreatDoor
namespace Go.Proofs.YteigofaccjaobaaGreatDoor
open Go.ChangeShapes Go.WideShapes Go.ChangeAt Go.RowKit Go.Deep Go.Joins
def I64 (x:Int):Prop:=-9223372036854775808≤x∧x≤9223372036854775807
theorem i64_of_wf {x:Int} (h:(Lit.int .i64 x).wf = true):I64 x:=by
 simp [Lit.wf,IntKind.min,IntKind.max,IntKind.signed,IntKind.bits] at h;exact ⟨by omega,by omega⟩
theorem cell_lt {W:World} {a:Addr} {v:Value} (h:W.cell? a = some v):a.block < W.heap.size∧a = ⟨a.block,a.off,none⟩:=by
 unfold World.cell? at h;split at h
 ·rename_i c t f hb;refine ⟨(Array.getElem?_eq_some_iff.1 hb).1,?_⟩;split at h
  ·cases h
  ·rename_i hs;obtain ⟨b,o,s⟩:=a;simp at hs;simp [hs]
 ·cases h
theorem add_plain {W:World} {a:Addr} {n:Nat} {v:Value} (h:W.cell? (a.add (0 * n)) = some v):∃ b o,a = ⟨b,o,none⟩:=by
 rw [Nat.zero_mul] at h;have:a.add 0 = a:=by simp [Addr.add]
 rw [this] at h;exact ⟨_,_,(cell_lt h).2⟩
theorem add_mk (b o n:Nat):(⟨b,o,none⟩:Addr).add n = ⟨b,o + n,none⟩:=by
 unfold Addr.add;by_cases h:n = 0 <;> simp [h]
theorem chosen {α:Type} {n:Nat} {p:Nat→α→Prop} (h:∀ i,i < n→∃ s,p i s):∃ l:List α,l.length = n∧∀ i s,l[i]? = some s→p i s:=by
 induction n with
 | zero => exact ⟨[],rfl,fun i s h => by simp at h⟩
 | succ n ih =>
  obtain ⟨l,hl,hp⟩:=ih (fun i hi => h i (by omega));obtain ⟨s,hs⟩:=h n (by omega);refine ⟨l ++ [s],by simp [hl],fun i x hx => ?_⟩;by_cases hi:i < n
  ·rw [List.getElem?_append_left (by omega)] at hx;exact hp i x hx
  ·rw [List.getElem?_append_right (by omega)] at hx;have h0:i - l.length = 0:=by
    have:=get_lt hx;simpa using this
   rw [h0] at hx;obtain rfl:s = x:=by simpa using hx
   obtain rfl:i = n:=by omega
   exact hs
section
variable {H:Type} {enc:TypeId × Value→H} {W:World}
theorem weightsAll_mem {e:TypeId}:∀ (l:List (DataW H)) (d:DataW H),d ∈ l→(DataW.weightsAll Tryz.prog e l).all (·≤reachBytes) = true→(d.weights Tryz.prog e).all (·≤reachBytes) = true
 | x :: r,d,hd,h => by
  simp only [DataW.weightsAll,List.all_append,Bool.and_eq_true] at h;rcases List.mem_cons.1 hd with rfl | hd
  ·exact h.1
  ·exact weightsAll_mem r d hd h.2
set_option maxRecDepth 100000 in
theorem recs_of_trod {α:Type} {k bytes:Nat} {code:α→List Value} {Good Size:α→Prop} {t e:TypeId} (ht:Tryz.prog.underlying t = some (.slice e)) (hk:Tryz.prog.cellsOf e = k) (hb:Tryz.prog.bytesOf e = bytes) (hk0:0 < k) (hlen:∀ s,(code s).length = k)
 (hdec:∀ n cs y,DataW.trod enc Tryz.prog W 0 (fun _ => true) true n e cs = some y→∃ s,cs = code s∧Good s∧((y.1.weights Tryz.prog e).all (·≤reachBytes) = true→Size s))
 {fuel:Nat} {cs:List Value} {x:DataW H × List MemPlace} (h:DataW.trod enc Tryz.prog W 0 (fun _ => true) true fuel t cs = some x) :
 ∃ (a:Option Addr) (c:Nat) (l:List α),cs = [.slice a l.length c]∧RecsIn Any k code W a l∧(a = none→c = 0)∧l.length≤c∧c≤maxLen∧(∀ s ∈ l,Good s)∧((x.1.weights Tryz.prog t).all (·≤reachBytes) = true→l.length * bytes≤reachBytes∧∀ s ∈ l,Size s):=by
 rcases open_slice ht h with ⟨rfl,_⟩ | ⟨a,len,cap,m,n,D,Pl,rfl,_,hl,hm,hmm,hx,hi⟩
 ·exact ⟨none,0,[],rfl,RecsIn.nil _ _ _ _ _,(fun _ => rfl),Nat.le_refl _,Nat.zero_le _,(fun _ h => by cases h),fun _ => ⟨by simp,fun _ h => by cases h⟩⟩
 ·simp only [if_true] at hmm;subst hmm;rw [hk] at hi;have each:∀ i,i < len→∃ s:α,(∀ j u,(code s)[j]? = some u→W.cell? (a.add (i * k + j)) = some u)∧Good s∧(((D i).weights Tryz.prog e).all (·≤reachBytes) = true→Size s):=fun i h => by
   obtain ⟨cs',hc,htr⟩:=hi i (by omega);obtain ⟨s,rfl,hg,hz⟩:=hdec _ _ _ htr;obtain ⟨_,_,hat⟩:=World.cells?_some hc;refine ⟨s,fun j u hu => ?_,hg,hz⟩;have hj:j < k:=by rw [← hlen s];exact (List.getElem?_eq_some_iff.1 hu).1
   rw [← hu,← hat j hj];congr 1;unfold Addr.add;by_cases h1:i * k = 0
   ·by_cases h2:j = 0 <;> simp [h1,h2]
   ·by_cases h2:j = 0
    ·simp [h1,h2]
    ·have h3:¬ (i * k + j = 0):=by omega
     simp [h1,h2,Nat.add_assoc]
  obtain ⟨l,hll,hp⟩:=chosen each;refine ⟨some a,_,l,by rw [hll],⟨fun i s hs => ?_,fun _ _ _ => trivial⟩,(fun h => by cases h),by omega,hm,fun s hs => ?_,fun hw => ?_⟩
  ·have hi0:i < len:=by have:=get_lt hs;omega
   obtain ⟨hc,_⟩:=hp i s hs;have hne:code s ≠ []:=fun e => by have:=hlen s;rw [e] at this;simp at this;omega
   -- the place is plain
   obtain ⟨s0,hs0⟩:=get_some l 0 (by omega);obtain ⟨hc0,_⟩:=hp 0 s0 hs0;have hlen0:=hlen s0;obtain ⟨u0,hu0⟩:∃ u,(code s0)[0]? = some u:=⟨(code s0)[0]'(by omega),List.getElem?_eq_getElem _⟩
   obtain ⟨b,o,rfl⟩:=add_plain (n:=0) (by simpa using hc0 0 u0 hu0);have hbl:b < W.heap.size:=by have:=(cell_lt (hc0 0 u0 hu0)).1;simpa [add_mk] using this
   refine ⟨b,o,rfl,hbl,fun j u hu => ?_⟩;have:=hc j u hu;rw [add_mk] at this;rw [Nat.add_assoc];exact this
  ·obtain ⟨i,hi'⟩:=List.mem_iff_getElem?.1 hs;exact (hp i s hi').2.1
  ·subst hx;simp only [DataW.weights,ht,List.all_cons,List.all_append,Bool.and_eq_true,List.length_map,List.length_range,hb] at hw;refine ⟨Nat.le_trans (Nat.mul_le_mul_right _ (by omega)) (of_decide_eq_true hw.1),fun s hs => ?_⟩;obtain ⟨i,hi'⟩:=List.mem_iff_getElem?.1 hs;have hi0:i < len:=by have:=get_lt hi';omega
   refine (hp i s hi').2.2 (weightsAll_mem _ _ ?_ hw.2.1);exact List.mem_map.2 ⟨i,List.mem_range.2 hi0,rfl⟩
def TskI (s:Tsk):Prop:=I64 s.c∧I64 s.p∧I64 s.d∧I64 s.s
set_option maxRecDepth 100000 in
theorem tsk_of_trod (n:Nat) (cs:List Value) (y:DataW H × List MemPlace) (h:DataW.trod enc Tryz.prog W 0 (fun _ => true) true n 136 cs = some y):∃ s:Tsk,cs = s.cells∧TskI s∧((y.1.weights Tryz.prog 136).all (·≤reachBytes) = true→True):=by
 obtain ⟨y0,y1,y2,y3,m,_,hlen,t0,t1,t2,t3⟩:=trod_struct4 Tryz.underlying136 h;have hc:Tryz.prog.cellsOf 136 = 4:=by kernel_rfl
 have hci:Tryz.prog.cellsOf 3 = 1:=by kernel_rfl
 rw [hc] at hlen
 match cs,hlen with
 | [c0,c1,c2,c3],_ =>
  simp only [hci] at t0 t1 t2 t3;obtain ⟨k,e0,_,w0⟩:=DataW.trod_int Tryz.underlying3 t0;obtain ⟨q,e1,_,w1⟩:=DataW.trod_int Tryz.underlying3 t1;obtain ⟨t,e2,_,w2⟩:=DataW.trod_int Tryz.underlying3 t2;obtain ⟨u,e3,_,w3⟩:=DataW.trod_int Tryz.underlying3 t3;simp at e0 e1 e2 e3;subst e0 e1 e2 e3;exact ⟨⟨k,q,t,u⟩,rfl,⟨i64_of_wf w0,i64_of_wf w1,i64_of_wf w2,i64_of_wf w3⟩,fun _ => trivial⟩
def BalI (b:Bal):Prop:=I64 b.r∧I64 b.n
abbrev Bal.cells (b:Bal):List Value:=[.int .i64 b.r,.int .i64 b.n]
set_option maxRecDepth 100000 in
theorem bal_of_trod (n:Nat) (cs:List Value) (y:DataW H × List MemPlace) (h:DataW.trod enc Tryz.prog W 0 (fun _ => true) true n 23 cs = some y):∃ s:Bal,cs = s.cells∧BalI s∧((y.1.weights Tryz.prog 23).all (·≤reachBytes) = true→True):=by
 obtain ⟨y0,y1,m,_,hlen,t0,t1⟩:=trod_struct2 Tryz.underlying23 h;have hc:Tryz.prog.cellsOf 23 = 2:=by kernel_rfl
 have hci:Tryz.prog.cellsOf 3 = 1:=by kernel_rfl
 rw [hc] at hlen
 match cs,hlen with
 | [c0,c1],_ =>
  simp only [hci] at t0 t1;obtain ⟨k,e0,_,w0⟩:=DataW.trod_int Tryz.underlying3 t0;obtain ⟨q,e1,_,w1⟩:=DataW.trod_int Tryz.underlying3 t1;simp at e0 e1;subst e0 e1;exact ⟨⟨k,q⟩,rfl,⟨i64_of_wf w0,i64_of_wf w1⟩,fun _ => trivial⟩
def EntI (e:Ent):Prop:=I64 e.cl∧I64 e.nu∧I64 e.kd∧I64 e.id∧I64 e.srv.k∧I64 e.srv.q∧I64 e.srv.t∧I64 e.po∧I64 e.at_∧∀ s ∈ e.tasks,TskI s
def EntG (W:World) (x:EntM):Prop:=EntI x.e∧RecsIn Any 4 Tsk.cells W x.a x.e.tasks∧(x.a = none→x.c = 0)∧x.e.tasks.length≤x.c∧x.c≤maxLen
theorem EntG.ok {W:World} {x:EntM} (h:EntG W x) (hs:x.e.tasks.length * 32≤reachBytes):x.ok Any W:=⟨h.2.1,h.2.2.1,h.2.2.2.1,h.2.2.2.2,by unfold reachBytes at hs;omega⟩
set_option maxRecDepth 100000 in
theorem ent_of_trod (n:Nat) (cs:List Value) (y:DataW H × List MemPlace) (h:DataW.trod enc Tryz.prog W 0 (fun _ => true) true n 73 cs = some y):∃ s:EntM,cs = s.cells∧EntG W s∧((y.1.weights Tryz.prog 73).all (·≤reachBytes) = true→s.e.tasks.length * 32≤reachBytes):=by
 obtain ⟨y0,y1,y2,m,hy,hlen,t0,t1,t2⟩:=trod_struct3 Tryz.underlying73 h;have hc:Tryz.prog.cellsOf 73 = 10:=by kernel_rfl
 have hci:Tryz.prog.cellsOf 3 = 1:=by kernel_rfl
 have hcs:Tryz.prog.cellsOf 68 = 3:=by kernel_rfl
 have hct:Tryz.prog.cellsOf 69 = 1:=by kernel_rfl
 have hco:Tryz.prog.cellsOf 71 = 8:=by kernel_rfl
 rw [hc] at hlen
 match cs,hlen with
 | [c0,c1,c2,c3,c4,c5,c6,c7,c8,c9],_ =>
  simp only [hci,hco] at t0 t1 t2;obtain ⟨cl,e0,_,w0⟩:=DataW.trod_int Tryz.underlying3 t0;obtain ⟨nu,e1,_,w1⟩:=DataW.trod_int Tryz.underlying3 t1;obtain ⟨xs,m2,_,hy2,_,hxl,hf⟩:=DataW.trod_struct Tryz.underlying71 t2
  match xs,hxl with
  | [z0,z1,z2,z3,z4,z5],_ =>
   have u0:DataW.trod enc Tryz.prog W 0 (fun _ => true) true m2 3 (List.take (Tryz.prog.cellsOf 3) (List.drop 0 [c2,c3,c4,c5,c6,c7,c8,c9])) = some z0:=hf 0 _ rfl;rw [hci] at u0;have u1:DataW.trod enc Tryz.prog W 0 (fun _ => true) true m2 3 (List.take (Tryz.prog.cellsOf 3) (List.drop 1 [c2,c3,c4,c5,c6,c7,c8,c9])) = some z1:=hf 1 _ rfl;rw [hci] at u1;have u2:DataW.trod enc Tryz.prog W 0 (fun _ => true) true m2 68 (List.take (Tryz.prog.cellsOf 68) (List.drop 2 [c2,c3,c4,c5,c6,c7,c8,c9])) = some z2:=hf 2 _ rfl;rw [hcs] at u2;have u3:DataW.trod enc Tryz.prog W 0 (fun _ => true) true m2 3 (List.take (Tryz.prog.cellsOf 3) (List.drop 5 [c2,c3,c4,c5,c6,c7,c8,c9])) = some z3:=hf 3 _ rfl;rw [hci] at u3;have u4:DataW.trod enc Tryz.prog W 0 (fun _ => true) true m2 69 (List.take (Tryz.prog.cellsOf 69) (List.drop 6 [c2,c3,c4,c5,c6,c7,c8,c9])) = some z4:=hf 4 _ rfl;rw [hct] at u4;have u5:DataW.trod enc Tryz.prog W 0 (fun _ => true) true m2 3 (List.take (Tryz.prog.cellsOf 3) (List.drop 7 [c2,c3,c4,c5,c6,c7,c8,c9])) = some z5:=hf 5 _ rfl;rw [hci] at u5;obtain ⟨kd,e2,_,w2⟩:=DataW.trod_int Tryz.underlying3 u0;obtain ⟨id,e3,_,w3⟩:=DataW.trod_int Tryz.underlying3 u1;obtain ⟨v0,v1,v2,m3,_,_,k0,k1,k2⟩:=trod_struct3 Tryz.underlying68 u2;simp only [hci] at k0 k1 k2;obtain ⟨s1,e4,_,w4⟩:=DataW.trod_int Tryz.underlying3 k0;obtain ⟨s2,e5,_,w5⟩:=DataW.trod_int Tryz.underlying3 k1;obtain ⟨s3,e6,_,w6⟩:=DataW.trod_int Tryz.underlying3 k2;obtain ⟨po,e7,_,w7⟩:=DataW.trod_int Tryz.underlying3 u3;obtain ⟨ta,tc,tl,e8,r1,r2,r3,r4,r5,r6⟩:=recs_of_trod (k:=4) (bytes:=32) (code:=Tsk.cells) Tryz.underlying69 (by kernel_rfl) (by kernel_rfl) (by omega) Tsk.cells_len (tsk_of_trod (enc:=enc) (W:=W)) u4;obtain ⟨at_,e9,_,w9⟩:=DataW.trod_int Tryz.underlying3 u5;simp at e0 e1 e2 e3 e4 e5 e6 e7 e8 e9;subst e0 e1 e2 e3 e4 e5 e6 e7 e8 e9;refine ⟨⟨⟨cl,nu,kd,id,⟨s1,s2,s3⟩,po,tl,at_⟩,ta,tc⟩,rfl,⟨⟨i64_of_wf w0,i64_of_wf w1,i64_of_wf w2,i64_of_wf w3,i64_of_wf w4,i64_of_wf w5,i64_of_wf w6,i64_of_wf w7,i64_of_wf w9,r5⟩,r1,r2,r3,r4⟩,fun hw => ?_⟩;rw [hy] at hw;simp only [DataW.weights,Tryz.underlying73,List.map_cons,List.map_nil,DataW.weightsEach,List.all_append,Bool.and_eq_true] at hw;have hw2:=hw.2.2.1;rw [hy2] at hw2;simp only [DataW.weights,Tryz.underlying71,List.map_cons,List.map_nil,DataW.weightsEach,List.all_append,Bool.and_eq_true] at hw2;exact (r6 hw2.2.2.2.2.1).1
theorem all_again {W':World} (hb:Gr W W'):∀ (ts:List TypeId) (vs:List Value) (ds:List (DataW H)) (p:List MemPlace),
 (ts.all fun t => Tryz.prog.readableRec t && decide (t < Tryz.prog.types.size)) = true→(∀ x ∈ p,x.block < W.heap.size) →
 DataW.TrodAll enc Tryz.prog W 0 (fun _ => true) true ts vs ds p→DataW.TrodAll enc Tryz.prog W' 0 (fun b => decide (b < W.heap.size)) true ts vs ds p:=by
 intro ts;induction ts with
 | nil =>
  intro vs ds p _ _ h;obtain ⟨rfl,rfl,rfl⟩:=trodAll_nil h;exact rfl
 | cons t ts ih =>
  intro vs ds p hts hp h;simp only [List.all_cons,Bool.and_eq_true,decide_eq_true_eq] at hts;obtain ⟨v,vs',d,ds',p1,q,rfl,rfl,rfl,h1,h2⟩:=trodAll_cons h;exact trodAll_cons_mk (Below.trod laidOut hts.1.1 hts.1.2 h1 hb (fun x hx => hp x (List.mem_append_left _ hx))) (ih vs' ds' q (by simpa using hts.2) (fun x hx => hp x (List.mem_append_right _ hx)) h2)
theorem post_law {f:Func} {s:ChangeSpec} {W':World} {args:Array Value} {ds gs:List (DataW H)} {before:List MemPlace}
 (hps:(f.params.toList.all fun t => Tryz.prog.readableRec t && decide (t < Tryz.prog.types.size)) = true) (hrt:f.resultTypes = #[4]) (hvs:s.vars = [])
 (hfn:(s.fn H ds).results = [.lit (.bool true)]∧(s.fn H ds).args = ds∧(s.fn H ds).vars = [])
 (hW:DataW.Whole enc Tryz.prog f.params.toList s.vars false W args.toList ds gs before) (hb:Gr W W') :
 s.post enc Tryz.prog f false true false false W args (.bool true) W':=by
 have hlt:=hW.lt;have hW':=hW;obtain ⟨p,q,hA,hV,rfl,hfz,hnd⟩:=hW;rw [hvs] at hV;obtain ⟨rfl,rfl⟩:=trodVars_none hV;refine ⟨ds,[],p ++ [],[],p,[],hW',?_,?_,?_,hb.frame _,fun h => by cases h⟩
 ·rw [List.append_nil,hfn.1,hrt];exact trodAll_mk1 (shut_bool Tryz.underlying4 _)
 ·rw [List.append_nil,hfn.2.1];exact all_again hb _ _ _ _ hps (fun x hx => hlt x (by simpa using hx)) hA
 ·rw [List.append_nil,hfn.2.2,hvs];rfl
end
section
variable {H:Type} {enc:TypeId × Value→H} {W:World}
end
end Go.Proofs.YteigofaccjaobaaGreatDoor
namespace Go.Proofs.YteigofaccjaobaaGreatDoor
open Go.RowKit
theorem wpList_app2 {W w:World} {ops:Array Oper} {rest:List Oper} {o:Oper} {a:Act} {Q:Exit→Act→World→Prop} (hgd:o.guard = none) (s x:Operand)
 (ho:o.op = .call { callee:=.builtin .append,args:=#[s,x],argTypes:=#[91,91] }) (a1:Option Addr) (c1 n1:Nat) (L1:List UInt8) (hs:a.eval s = .slice a1 n1 c1) (hn:L1.length = n1) (hO:Own W w a1 c1 L1)
 (sa:Option Addr) (c:Nat) (l:List UInt8) (hx:a.eval x = .slice sa l.length c) (hl:BytesAt w sa l) (hc:sa = none→c = 0) (hb:n1 + l.length≤1000000)
 (h:∀ a' c' w',Own W w' a' c' (L1 ++ l)→w.grownBy w' (Value.slice a1 n1 c1).ownBlock→(∀ y,a' = some y→(∃ z,a1 = some z∧y.block = z.block) ∨ y.block = w.heap.size)→wpList Tryz.prog ops Q rest (a.put o.dst (.slice a' (L1 ++ l).length c')) w'):wpList Tryz.prog ops Q (o :: rest) a w:=by
 subst hn;obtain ⟨i5,hi,hz0,hz1,hz2⟩:=info_parts Tryz.infoU8;obtain ⟨ow,br,bn,bb,g⟩:=hO;refine wpList_append_at (k:=1) (enc:=byteC) hgd s x 91 ho W.heap.size 5 i5 _ 1 Tryz.underlying91 hi hz0 hz1 hz2 rfl (by decide) byteC_len byteC_one (.slice a1 L1.length c1) L1 hs ow sa c l hx hl hc (by unfold maxLen;omega) (by omega) g.size ?_;intro v2 w2 hown2 hgr2 hat;have g2:Gr W w2:=g.grown hgr2 (own_block ow);obtain ⟨a2,c2,hv2,ho2⟩:=Own.of hown2 g2;subst hv2;refine h a2 c2 w2 ho2 hgr2 fun y hy => ?_
 subst hy;rcases hat with h1 | h1
 ·cases a1 with
  | none => cases h1
  | some z => exact .inl ⟨z,rfl,Option.some.inj h1⟩
 ·exact .inr (Option.some.inj h1)
theorem GrX.grown {S:List Nat} {w a w':World} {row:Option Nat} (h:GrX S w a) (hg:a.grownBy w' row) (hr:∀ k,row = some k→k ∈ S ∨ w.heap.size≤k):GrX S w w':=by
 obtain ⟨g1,g2,g3,g4,g5⟩:=hg;refine ⟨g1.trans h.os,g2.trans h.tape,g3.trans h.output,Nat.le_trans h.size g4,fun k hk hn => ?_⟩;rw [g5 k (Nat.lt_of_lt_of_le hk h.size) (fun e => by rcases hr k e.symm with h1 | h1;exact hn h1;omega)];exact h.block k hk hn
end Go.Proofs.YteigofaccjaobaaGreatDoor
