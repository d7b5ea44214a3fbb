/- order.Write of a ledger that is too long; voter.shared. -/
import Derived.Test.YteigofaccjaobaaGreatDoorKL15
import Derived.Stop.Asserts
import Derived.RowKitTokens
namespace Go.Proofs.YteigofaccjaobaaGreatDoor
open Go.RowKit
theorem owrite_large {G:List Nat} {E:Nat→Addr} (w:World) (hE:EAt G E w) (i3:5 ∈ G) (a:Option Addr) (n c:Nat) (hn:64 < n) :
 Calls Tryz.prog 40 #[.slice a n c] w fun r w' => r = .returned (.tuple #[.slice none 0 0,largeE E])∧Gr w w':=by
 have e3:=hE.c0 i3;have hn2:(64:Int) < n:=by omega
 have hn3:¬ (n:Int)≤64:=by omega
 replace hE:=Lib.hid hE;go_enter Tryz.func40,Tryz.ntmps40;go_upto_region 2 with fail
 go_quiet (fail);go_wp2_with fail
 (try simp only [Exit.inBlock,Exit.then])
 refine bodyPost_ret (results_tmp2 rfl _ _ _) rfl ?_;exact ⟨rfl,by first | exact Gr.refl _ | exact (Gr.refl _).drewN _⟩
def shN:List Ent→List Ent→Nat
 | x :: l,y :: m => if sameE x y = true then shN l m + 1 else 0
 | _,_ => 0
theorem shN_take:∀ (l m:List Ent),l.take (shN l m) = m.take (shN l m)
 | [],m => by simp [shN]
 | x :: l,[] => by simp [shN]
 | x :: l,y :: m => by
  unfold shN;by_cases h:sameE x y = true
  ·rw [if_pos h,List.take_succ_cons,List.take_succ_cons,sameE_eq h,shN_take l m]
  ·rw [if_neg h];simp
theorem shN_le:∀ (l m:List Ent),shN l m≤l.length∧shN l m≤m.length
 | [],m => by simp [shN]
 | x :: l,[] => by simp [shN]
 | x :: l,y :: m => by
  have:=shN_le l m;unfold shN;by_cases h:sameE x y = true
  ·rw [if_pos h];simp;omega
  ·rw [if_neg h];simp
theorem shN_step {l m:List Ent} {k:Nat} {x y:Ent} (hx:l[k]? = some x) (hy:m[k]? = some y):shN (l.drop k) (m.drop k) = if sameE x y = true then shN (l.drop (k + 1)) (m.drop (k + 1)) + 1 else 0:=by
 obtain ⟨h1,e1⟩:=List.getElem?_eq_some_iff.1 hx;obtain ⟨h2,e2⟩:=List.getElem?_eq_some_iff.1 hy;rw [List.drop_eq_getElem_cons h1,List.drop_eq_getElem_cons h2,e1,e2];rfl
theorem shN_end {l m:List Ent} {k:Nat} (h:l.length≤k ∨ m.length≤k):shN (l.drop k) (m.drop k) = 0:=by
 have:=shN_le (l.drop k) (m.drop k);rw [List.length_drop,List.length_drop] at this;omega
set_option maxRecDepth 100000 in
set_option maxHeartbeats 3200000 in
theorem shared_any (a1 a2:Option Addr) (c1 c2:Nat) (L1 L2:List EntM) (w:World) (h1:LedM Any w a1 L1) (h2:LedM Any w a2 L2) (hm:L1.length≤64) :
 Calls Tryz.prog 41 #[.slice a1 L1.length c1,.slice a2 L2.length c2] w fun e w' => e = .returned (.int .i64 (shN (Ents L1) (Ents L2):Nat))∧Gr w w':=by
 obtain ⟨n1,hn1⟩:∃ n1,n1 = L1.length:=⟨_,rfl⟩
 obtain ⟨n2,hn2⟩:∃ n2,n2 = L2.length:=⟨_,rfl⟩
 obtain ⟨S,hS⟩:∃ S,S = shN (Ents L1) (Ents L2):=⟨_,rfl⟩
 rw [← hn1] at hm;rw [← hn1,← hn2,← hS];replace hn1:=Lib.hid hn1;replace hn2:=Lib.hid hn2;replace hS:=Lib.hid hS;replace h1:=Lib.hid h1;replace h2:=Lib.hid h2;go_enter Tryz.func41,Tryz.ntmps41;go_wp2_with fail;go_loopw [5] (fun iv wr => ∃ k:Nat,k≤n1∧iv = .int .i64 k∧Hid (S = k + shN ((Ents L1).drop k) ((Ents L2).drop k))∧Gr w wr) (fun iv _ => n1 - (intOf iv).toNat);case atStart => exact ⟨0,Nat.zero_le _,rfl,Lib.hid (by rw [hS.out];simp),Gr.refl _⟩
 case round =>
  obtain ⟨k,hk,rfl,hI,hg⟩:=hrel;by_cases hlt:k < n1
  ·have d1:decide ((k:Int) < n1) = true:=decide_eq_true (by omega);by_cases hlt2:k < n2
   ·have d2:decide ((k:Int) < n2) = true:=decide_eq_true (by omega);have i1:(k:Int) < n1:=by omega
    have i2:(k:Int) < n2:=by omega
    obtain ⟨x,hx⟩:=get_some L1 k (by rw [← hn1.out];exact hlt);obtain ⟨y,hy⟩:=get_some L2 k (by rw [← hn2.out];exact hlt2);have hst:=shN_step (l:=Ents L1) (m:=Ents L2) (k:=k) (x:=x.e) (y:=y.e) (by rw [List.getElem?_map,hx];rfl) (by rw [List.getElem?_map,hy];rfl);have o1:=(h1.out.gr hg).2 x (get_mem hx);have o2:=(h2.out.gr hg).2 y (get_mem hy);have hsm:=fun w' (g:Gr wr w') => same_any x y w' (o1.1.1.gr' g) (o2.1.1.gr' g) (by have:=ent_cap o1;omega)
    obtain ⟨v,hv⟩:∃ v,v = sameE x.e y.e:=⟨_,rfl⟩
    rw [← hv] at hsm hst;obtain ⟨b,off,rfl,hb,_,d0,d1',d2',d3,d4,d5,d6,d7,d8,d9⟩:=(h1.out.gr hg).get hx;obtain ⟨b',off',rfl,hb',_,e0,e1,e2,e3,e4,e5,e6,e7,e8,e9⟩:=(h2.out.gr hg).get hy;have q0:=GrW.cell d0;have q1:=GrW.cell d1';have q2:=GrW.cell d2';have q3:=GrW.cell d3;have q4:=GrW.cell d4;have q5:=GrW.cell d5;have q6:=GrW.cell d6;have q7:=GrW.cell d7;have q8:=GrW.cell d8;have q9:=GrW.cell d9;have p0:=GrW.cell e0;have p1:=GrW.cell e1;have p2:=GrW.cell e2;have p3:=GrW.cell e3;have p4:=GrW.cell e4;have p5:=GrW.cell e5;have p6:=GrW.cell e6;have p7:=GrW.cell e7;have p8:=GrW.cell e8;have p9:=GrW.cell e9;replace hsm:=Lib.hid hsm;replace hx:=Lib.hid hx;replace hy:=Lib.hid hy;replace hv:=Lib.hid hv;replace hst:=Lib.hid hst;replace o1:=Lib.hid o1;replace o2:=Lib.hid o2;cases v with
    | true =>
     have hI2:S = (k + 1) + shN ((Ents L1).drop (k + 1)) ((Ents L2).drop (k + 1)):=by
      have:=hI.out;have h3:=hst.out;rw [if_pos rfl] at h3;omega
     replace hI2:=Lib.hid hI2;go_wp2_with fail;refine wp_region_grows (by kernel_rfl) (by kernel_rfl) ?_;repeat (any_goals (first | go_big_quiet_step (first | (exact Calls.grows (hsm.out _ (by exact GrW.gr _)))) | quiet_step (first | (exact Calls.grows (hsm.out _ (by exact GrW.gr _))))))
     refine wpQuiet_nil ?_;intro wp hwq;have gp:=GrW.of hwq;clear hwq;obtain ⟨cp,fp,sp⟩:=gp.cells;try simp only [size_drewN] at cp fp sp
     try simp only [World.size_alloc] at cp fp sp
     try simp only [World.size_drew] at cp fp sp
     try simp only [World.size_setCell] at cp fp sp
     clear q0 q1 q2 q3 q4 q5 q6 q7 q8 q9 p0 p1 p2 p3 p4 p5 p6 p7 p8 p9;go_wp2_with fail;go_roundw;case rel => exact ⟨k + 1,by omega,by go_num,hI2,hg.trans gp⟩
     case measure => simp [intOf];omega
    | false =>
     have hI2:S = k:=by
      have:=hI.out;have h3:=hst.out;rw [if_neg (by decide)] at h3;omega
     replace hI2:=Lib.hid hI2;go_wp2_with fail;refine wp_region_grows (by kernel_rfl) (by kernel_rfl) ?_;repeat (any_goals (first | go_big_quiet_step (first | (exact Calls.grows (hsm.out _ (by exact GrW.gr _)))) | quiet_step (first | (exact Calls.grows (hsm.out _ (by exact GrW.gr _))))))
     refine wpQuiet_nil ?_;intro wp hwq;have gp:=GrW.of hwq;clear hwq;obtain ⟨cp,fp,sp⟩:=gp.cells;try simp only [size_drewN] at cp fp sp
     try simp only [World.size_alloc] at cp fp sp
     try simp only [World.size_drew] at cp fp sp
     try simp only [World.size_setCell] at cp fp sp
     clear q0 q1 q2 q3 q4 q5 q6 q7 q8 q9 p0 p1 p2 p3 p4 p5 p6 p7 p8 p9;go_wp2_with fail;go_ret;exact ⟨by rw [hI2.out];rfl,hg.trans gp⟩
   ·have d2:decide ((k:Int) < n2) = false:=decide_eq_false (by omega);have hI2:S = k:=by have:=hI.out;rw [shN_end (.inr (by rw [List.length_map,← hn2.out];omega))] at this;omega
    replace hI2:=Lib.hid hI2;go_wp2_with fail;refine wp_region_grows (by kernel_rfl) (by kernel_rfl) ?_;repeat (any_goals (first | go_big_quiet_step (first | fail) | quiet_step (first | fail)))
    refine wpQuiet_nil ?_;intro wp hwq;have gp:=GrW.of hwq;clear hwq;obtain ⟨cp,fp,sp⟩:=gp.cells;try simp only [size_drewN] at cp fp sp
    try simp only [World.size_alloc] at cp fp sp
    try simp only [World.size_drew] at cp fp sp
    try simp only [World.size_setCell] at cp fp sp
    go_wp2_with fail;go_ret;exact ⟨by rw [hI2.out];rfl,hg.trans gp⟩
  ·have d1:decide ((k:Int) < n1) = false:=decide_eq_false (by omega);have hI2:S = k:=by have:=hI.out;rw [shN_end (.inl (by rw [List.length_map,← hn1.out];omega))] at this;omega
   replace hI2:=Lib.hid hI2;go_wp2_with fail;refine wp_region_grows (by kernel_rfl) (by kernel_rfl) ?_;repeat (any_goals (first | go_big_quiet_step (first | fail) | quiet_step (first | fail)))
   refine wpQuiet_nil ?_;intro wp hwq;have gp:=GrW.of hwq;clear hwq;obtain ⟨cp,fp,sp⟩:=gp.cells;try simp only [size_drewN] at cp fp sp
   try simp only [World.size_alloc] at cp fp sp
   try simp only [World.size_drew] at cp fp sp
   try simp only [World.size_setCell] at cp fp sp
   go_wp2_with fail;go_ret;exact ⟨by rw [hI2.out];rfl,hg.trans gp⟩
end Go.Proofs.YteigofaccjaobaaGreatDoor
namespace Go.Proofs.YteigofaccjaobaaGreatDoor
open Go.RowKit Go.Extern.Stop Go.Stop Go.Extern
theorem Tryz.isTypeOf (v:Value) (w:World):(Extern.ReflectliteType.typeOf #[.iface 297 v]).run Tryz.prog w = .ok (.iface 261 (.agg #[.pointer (some ⟨16,297,none⟩)])) w:=by kernel_rfl
theorem Tryz.isComparable (w : World) : ((Extern.ReflectliteType.method fun t => do Extern.Rtype.noPackHeld "Comparable" t; (fun a => Value.bool a.comparable) <$> typeInfo t) #[.agg #[.pointer (some ⟨16, 297, none⟩)]]).run Tryz.prog w = .ok (.bool true) w := by kernel_rfl
theorem Tryz.noIsE (v:Value) (xT:TypeId) (w:World):(Instr.typeAssert (.iface 297 v) xT 263 true).run Tryz.prog w = .ok (.tuple #[.nilIface,.bool false]) w:=run_typeAssert_lacksB Tryz.underlying263 (by kernel_rfl) (by kernel_rfl) v xT w
theorem Tryz.noUnwrapE (v:Value) (xT:TypeId) (w:World):(Instr.typeAssert (.iface 297 v) xT 266 true).run Tryz.prog w = .ok (.tuple #[.nilIface,.bool false]) w:=run_typeAssert_lacksB Tryz.underlying266 (by kernel_rfl) (by kernel_rfl) v xT w
theorem Tryz.noUnwrapsE (v:Value) (xT:TypeId) (w:World):(Instr.typeAssert (.iface 297 v) xT 267 true).run Tryz.prog w = .ok (.tuple #[.nilIface,.bool false]) w:=run_typeAssert_lacksB Tryz.underlying267 (by kernel_rfl) (by kernel_rfl) v xT w
theorem Tryz.isMethodComparable (v : Value) (w : World) : (Go.method 433 261 v "Comparable").run Tryz.prog w = .ok (206, v) w := by kernel_rfl
theorem is2_same (E:Nat→Addr) (g:Nat) (w:World) :
 Calls Tryz.prog 125 #[errAt E g,errAt E g,.bool true] w fun e w' => e = .returned (.bool true)∧w' = w:=by
 have heq:=eql_same E g w;go_enter Tryz.func125,Tryz.ntmps125;go_wp2;refine wp_loop_rounds 1 ?_;rw [rounds_succ];go_wp2;go_ret;exact ⟨rfl,rfl⟩
theorem is2_other {G:List Nat} {E:Nat→Addr} {w:World} (h:EAt G E w) {g k:Nat} (hg:g ∈ G) (hk:k ∈ G) (hn:g ≠ k) :
 Calls Tryz.prog 125 #[errAt E g,errAt E k,.bool true] w fun e w' => e = .returned (.bool false)∧w' = w:=by
 have heq:=eql_other h hg hk hn;have nE:=Tryz.noIsE;have uE:=Tryz.noUnwrapE;have vE:=Tryz.noUnwrapsE;replace h:=Lib.hid h;go_enter Tryz.func125,Tryz.ntmps125;go_wp2;refine wp_loop_rounds 1 ?_;rw [rounds_succ];go_wp2;go_ret;exact ⟨rfl,rfl⟩
theorem errIs_nil (E:Nat→Addr) (g:Nat) (w:World) :
 Calls Tryz.prog 83 #[.nilIface,errAt E g] w fun e w' => e = .returned (.bool false)∧w' = w:=by
 have hn:=run_eql_iface_nil_left (P:=Tryz.prog) w 297 (.pointer (some (E g))) Tryz.underlying31;go_enter Tryz.func83,Tryz.ntmps83;go_wp2;go_ret;exact ⟨rfl,rfl⟩
set_option maxRecDepth 100000 in
theorem errIs_call (E:Nat→Addr) (g k:Nat) (w:World) (b:Bool) (h:Calls Tryz.prog 125 #[errAt E g,errAt E k,.bool true] w fun e w' => e = .returned (.bool b)∧w' = w) :
 Calls Tryz.prog 83 #[errAt E g,errAt E k] w fun e w' => e = .returned (.bool b)∧w' = w:=by
 have h8 := @run_callFunc_extern Tryz.prog 124 _ Extern.ReflectliteType.typeOf Tryz.func124 (by kernel_rfl) (by kernel_rfl) (by kernel_rfl) (by kernel_rfl);have h32 := @run_callFunc_extern Tryz.prog 206 _ (Extern.ReflectliteType.method fun t => do Extern.Rtype.noPackHeld "Comparable" t; pure (.bool (← typeInfo t).comparable)) Tryz.func206 (by kernel_rfl) (by kernel_rfl) (by kernel_rfl) (by kernel_rfl);have tT := Tryz.isTypeOf;have cT := Tryz.isComparable;have mR := Tryz.isMethodComparable;replace h := Lib.hid h;go_enter Tryz.func83, Tryz.ntmps83;go_wp2_with fail;refine h.out.mono ?_;rintro e w1 ⟨rfl, rfl⟩;go_wp2_with fail;go_ret;exact ⟨rfl, rfl⟩
end Go.Proofs.YteigofaccjaobaaGreatDoor
namespace Go.Proofs.YteigofaccjaobaaGreatDoor
open Go.RowKit
structure Hold (W:World) (db lb vb:Nat) (V:VotM) (M:DskM) (L:LogM) (w:World):Prop where
 d:DskAt w db M
 mw:∀ b ∈ M.own db,W.heap.size≤b
 l:LogAt W w lb db M.d L
 v:VotAt W w vb lb (M.own db ++ L.own lb) V
 g:Gr W w
structure Mv (db lb k:Nat) (M M':DskM) (L L':LogM) (w w':World):Prop where
 g:GrX (M.own db ++ L.own lb) w w'
 o:∀ b ∈ M'.own db ++ L'.own lb,b ∈ M.own db ++ L.own lb ∨ w.heap.size≤b
 m:M'.m + M'.d.C.length≤M.m + M.d.C.length + k
theorem Hold.own {W w:World} {db lb vb:Nat} {V:VotM} {M:DskM} {L:LogM} (h:Hold W db lb vb V M L w):∀ b ∈ M.own db ++ L.own lb,W.heap.size≤b:=fun b hb => by
 rcases List.mem_append.1 hb with hb | hb
 ·exact h.mw b hb
 ·exact h.l.ge b hb
theorem Hold.own_lt {W w:World} {db lb vb:Nat} {V:VotM} {M:DskM} {L:LogM} (h:Hold W db lb vb V M L w):∀ b ∈ M.own db ++ L.own lb,b < w.heap.size:=fun b hb => by
 rcases List.mem_append.1 hb with hb | hb
 ·exact h.d.lt b hb
 ·exact h.l.lt b hb
theorem Hold.gr {W w w':World} {db lb vb:Nat} {V:VotM} {M:DskM} {L:LogM} (h:Hold W db lb vb V M L w) (g:Gr w w'):Hold W db lb vb V M L w':=⟨h.d.gr g,h.mw,h.l.gr g,h.v.gr g,h.g.trans g⟩
theorem Hold.logP {W w w':World} {db lb vb:Nat} {V:VotM} {M M':DskM} {L L':LogM} {d:DskV} {v:LogV} (h:Hold W db lb vb V M L w) (p:LogP W db lb d v M M' L L' w w'):Hold W db lb vb V M' L' w'∧Mv db lb 600 M M' L L' w w' :=
 ⟨⟨p.dk,fun b hb => by
  rcases p.o b (List.mem_append_left _ hb) with h1 | h1
  ·exact h.own b h1
  ·have:=h.g.size;omega,p.lg,h.v.step p.g p.o,GrX.all h.g p.g h.own⟩,⟨p.g,p.o,p.m⟩⟩
theorem Mv.trans {db lb k j:Nat} {M M1 M2:DskM} {L L1 L2:LogM} {w w1 w2:World} (h:Mv db lb k M M1 L L1 w w1) (h2:Mv db lb j M1 M2 L1 L2 w1 w2):Mv db lb (k + j) M M2 L L2 w w2 :=
 ⟨h.g.trans2 h2.g h.o,fun b hb => by
  rcases h2.o b hb with h3 | h3
  ·exact h.o b h3
  ·have:=h.g.size;right;omega,by have:=h.m;have:=h2.m;omega⟩
theorem Mv.gr {db lb k:Nat} {M M1:DskM} {L L1:LogM} {w w1 w2:World} (h:Mv db lb k M M1 L L1 w w1) (g:Gr w1 w2):Mv db lb k M M1 L L1 w w2:=⟨h.g.gr g,h.o,h.m⟩
structure Byt (own:List Nat) (w:World) (a:Option Addr) (c:Nat) (b:List UInt8):Prop where
 b:BytesAt w a b
 n:a = none→c = 0
 x:∀ x,a = some x→x.block < w.heap.size∧x.block ∉ own
theorem Byt.gr {own:List Nat} {w w':World} {a:Option Addr} {c:Nat} {b:List UInt8} (h:Byt own w a c b) (g:Gr w w'):Byt own w' a c b:=⟨h.b.gr g,h.n,fun x hx => ⟨by have:=(h.x x hx).1;have:=g.size;omega,(h.x x hx).2⟩⟩
theorem Byt.mv {db lb k:Nat} {M M':DskM} {L L':LogM} {w w':World} {a:Option Addr} {c:Nat} {b:List UInt8} (h:Byt (M.own db ++ L.own lb) w a c b) (p:Mv db lb k M M' L L' w w'):Byt (M'.own db ++ L'.own lb) w' a c b :=
 ⟨h.b.grx p.g (fun x hx _ => (h.x x hx).2),h.n,fun x hx => ⟨by have:=(h.x x hx).1;have:=p.g.size;omega,fun hm => by
  rcases p.o _ hm with h1 | h1
  ·exact (h.x x hx).2 h1
  ·have:=(h.x x hx).1;omega⟩⟩
theorem Hold.own_byt {W w w1 w2:World} {db lb vb:Nat} {V:VotM} {M:DskM} {L:LogM} {a:Option Addr} {c:Nat} {b:List UInt8} (h:Hold W db lb vb V M L w) (g:Gr w w1) (ho:Own w1 w2 a c b):Byt (M.own db ++ L.own lb) w2 a c b :=
 ⟨ho.2.1,ho.2.2.1,fun x hx => ⟨ho.lt hx,fun hm => by have h1:=h.own_lt _ hm;have h2:=ho.2.2.2.1 x hx;have h3:=g.size;omega⟩⟩
def DonP (s':VotS) (V:VotM) (w1:World) (e:Ending) (w':World):Prop:=∃ a' c' L',e = .returned (.tuple #[.agg (stC s' a' s'.l.length c'),.bool true])∧Ents L' = s'.l∧(LedM (fun b => w1.heap.size≤b) w' a' L' ∨ (a' = V.a∧L' = V.L))∧(a' = none→c' = 0)∧s'.l.length≤c'∧Gr w1 w'
def aocE (d:DskV) (v:LogV) (sb b:List UInt8):Nat:=if appE d v b = 7 then (if chkE d v sb = 0 then appE (chkD d v sb) (chkL d v sb) b else chkE d v sb) else appE d v b
def aocD (d:DskV) (v:LogV) (sb b:List UInt8):DskV:=if appE d v b = 7 then (if chkE d v sb = 0 then appD (chkD d v sb) (chkL d v sb) b else chkD d v sb) else appD d v b
def aocL (d:DskV) (v:LogV) (sb b:List UInt8):LogV:=if appE d v b = 7 then (if chkE d v sb = 0 then appL (chkD d v sb) (chkL d v sb) b else chkL d v sb) else appL d v b
def wrtD (d:DskV) (v:LogV) (sb b:List UInt8):DskV:=if aocE d v sb b = 0 then syncD (aocD d v sb b) else aocD d v sb b
theorem appE_cases (d:DskV) (v:LogV) (b:List UInt8):(appE d v b = 0∧d.lost = false) ∨ appE d v b = 7 ∨ appE d v b = 8 ∨ appE d v b = 9:=by
 unfold appE;cases hl:d.lost with
 | true => simp
 | false => simp only [Bool.false_eq_true,if_false];(repeat' split) <;> simp
theorem chkE_cases (d:DskV) (v:LogV) (b:List UInt8):(chkE d v b = 0∧d.lost = false) ∨ chkE d v b = 7 ∨ chkE d v b = 8 ∨ chkE d v b = 9:=by
 unfold chkE;cases hl:d.lost with
 | true => simp
 | false => simp only [Bool.false_eq_true,if_false];(repeat' split) <;> simp
theorem putD_lost (d:DskV) (a:Nat) (f:List UInt8):(putD d a f).lost = d.lost:=by
 unfold putD;rfl
theorem appD_lost (d:DskV) (v:LogV) (b:List UInt8):(appD d v b).lost = d.lost:=by
 unfold appD;split
 ·exact putD_lost _ _ _
 ·rfl
theorem appD_same {d:DskV} {v:LogV} {b:List UInt8} (h:appE d v b ≠ 0):appD d v b = d:=if_neg h
theorem appL_same {d:DskV} {v:LogV} {b:List UInt8} (h:appE d v b ≠ 0):appL d v b = v:=if_neg h
theorem chkD_lost (d:DskV) (v:LogV) (b:List UInt8):(chkD d v b).lost = d.lost:=by
 unfold chkD;split
 ·rfl
 ·rfl
theorem appD_n (d:DskV) (v:LogV) (b:List UInt8):(appD d v b).n = d.n:=by
 unfold appD;split
 ·rfl
 ·rfl
theorem chkD_n (d:DskV) (v:LogV) (b:List UInt8):(chkD d v b).n = d.n:=by
 unfold chkD;split
 ·rfl
 ·rfl
theorem syncE_no {d:DskV} (h:d.lost = false):syncE d = 0:=by unfold syncE;rw [h];rfl
structure VwrP (W:World) (E:Nat→Addr) (db lb vb:Nat) (V:VotM) (s':VotS) (b:List UInt8) (M:DskM) (L:LogM) (w:World) (q:Ending) (w':World):Prop where
 x:∃ M' L' V',q = .returned (eV E (aocE M.d L.v (snapB V.s) b))∧M'.d = wrtD M.d L.v (snapB V.s) b∧L'.v = aocL M.d L.v (snapB V.s) b∧V'.s = (if aocE M.d L.v (snapB V.s) b = 0 then s' else V.s)∧V'.nu = V.nu∧Hold W db lb vb V' M' L' w'∧(∀ b ∈ M'.own db ++ L'.own lb,b ∈ M.own db ++ L.own lb ∨ w.heap.size≤b)∧M'.m + M'.d.C.length≤M.m + M.d.C.length + 3000∧GrX (vb :: (M.own db ++ L.own lb)) w w'
set_option maxRecDepth 100000 in
set_option maxHeartbeats 12800000 in
theorem write_ok {G:List Nat} {E:Nat→Addr} {W:World} (w:World) (hE:EAt G E W) (i4:0 ∈ G) (i5:1 ∈ G) (i3:5 ∈ G) (i6:2 ∈ G) {db lb vb:Nat} {V:VotM} {M:DskM} {L:LogM} (h:Hold W db lb vb V M L w) (hC:M.m + M.d.C.length≤890000) (h4:4≤M.d.n) (a:Option Addr) (c:Nat) (b:List UInt8) (hb:Byt (M.own db ++ L.own lb) w a c b) (s':VotS) (hs':s'.ok) (hdn:∀ w1,Gr W w1→BytesAt w1 a b→LedM Any w1 V.a V.L→Calls Tryz.prog 45 #[.agg (stC V.s V.a V.s.l.length V.c),.slice a b.length c] w1 (DonP s' V w1)) (hz:appE M.d L.v b = 0) (hlost:M.d.lost = false) :
 Calls Tryz.prog 38 #[.pointer (some ⟨vb,0,none⟩),.slice a b.length c] w (VwrP W E db lb vb V s' b M L w):=by
 obtain ⟨n,hn⟩:∃ n,n = b.length:=⟨_,rfl⟩
 rw [← hn];have hap:=append_any W w hE h.g i4 i5 i3 i6 h.d h.mw h.l (by omega) a c b hb.b hb.n (fun x hx => (hb.x x hx).1) (fun x hx hm => (hb.x x hx).2 (List.mem_append_left _ hm)) h4;rw [← hn,hz] at hap;replace hap:Calls Tryz.prog 82 #[.pointer (some ⟨lb,0,none⟩),.slice a n c] w fun q w' => ∃ M' L',q = .returned .nilIface∧LogP W db lb (appD M.d L.v b) (appL M.d L.v b) M M' L L' w w':=hap
 have d0:=h.v.b.cell (i:=0) (v:=.int .i64 V.s.pr) rfl;have d1:=h.v.b.cell (i:=1) (v:=.int .i64 V.s.pn) rfl;have d2:=h.v.b.cell (i:=2) (v:=.int .i64 V.s.ar) rfl;have d3:=h.v.b.cell (i:=3) (v:=.int .i64 V.s.an) rfl;have d4:=h.v.b.cell (i:=4) (v:=.slice V.a V.s.l.length V.c) rfl;have d5:=h.v.b.cell (i:=5) (v:=.int .i64 V.s.cl) rfl;have d6:=h.v.b.cell (i:=6) (v:=.int .i64 V.nu) rfl;have d7:=h.v.b.cell (i:=7) (v:=.pointer (some ⟨lb,0,none⟩)) rfl;have dz:=h.v.b.lt;replace hn:=Lib.hid hn;replace hap:=Lib.hid hap;replace h:=Lib.hid h;replace hb:=Lib.hid hb;replace hE:=Lib.hid hE;replace hdn:=Lib.hid hdn;replace hs':=Lib.hid hs';replace hz:=Lib.hid hz;go_enter Tryz.func38,Tryz.ntmps38;go_wp2_with fail;refine hap.out.mono ?_;rintro q w1 ⟨M1,L1,rfl,p1⟩;obtain ⟨h1,v1⟩:=h.out.logP p1;have hb1:=hb.out.mv v1;have hd1:=p1.d;have hl1:=p1.v;have m1:=v1.m;clear p1;clear d0 d1 d2 d3 d4 d5 d6 d7 dz;have e0:=h1.v.b.cell (i:=0) (v:=.int .i64 V.s.pr) rfl;have e1:=h1.v.b.cell (i:=1) (v:=.int .i64 V.s.pn) rfl;have e2:=h1.v.b.cell (i:=2) (v:=.int .i64 V.s.ar) rfl;have e3:=h1.v.b.cell (i:=3) (v:=.int .i64 V.s.an) rfl;have e4:=h1.v.b.cell (i:=4) (v:=.slice V.a V.s.l.length V.c) rfl;have e5:=h1.v.b.cell (i:=5) (v:=.int .i64 V.s.cl) rfl;have e6:=h1.v.b.cell (i:=6) (v:=.int .i64 V.nu) rfl;have e7:=h1.v.b.cell (i:=7) (v:=.pointer (some ⟨lb,0,none⟩)) rfl;have ez:=h1.v.b.lt;have ef:=(hE.out.gr h1.g).c0 i6;have hgW:=hE.out.gr h1.g;have hlo:M1.d.lost = false:=by rw [hd1,appD_lost];exact hlost
 replace hlo:=Lib.hid hlo;replace h1:=Lib.hid h1;replace v1:=Lib.hid v1;replace hb1:=Lib.hid hb1;replace hd1:=Lib.hid hd1;replace hl1:=Lib.hid hl1;replace hgW:=Lib.hid hgW;go_wp2_with fail;refine (errIs_nil E 2 _).mono ?_;rintro q wx ⟨rfl,hwx⟩;rw [hwx];clear hwx;have hsy:=sync_any W w1 hgW.out i4 h1.out.d h1.out.l (by omega);rw [syncE_no hlo.out] at hsy;replace hsy:Calls Tryz.prog 85 #[.pointer (some ⟨lb,0,none⟩)] w1 fun q w' => ∃ M',q = .returned .nilIface∧LogP W db lb (syncD M1.d) L1.v M1 M' L1 L1 w1 w':=hsy
 replace hsy:=Lib.hid hsy;go_wp2_with fail;refine hsy.out.mono ?_;rintro q w2 ⟨M2,rfl,p2⟩;obtain ⟨h2,v2⟩:=h1.out.logP p2;have v02:=v1.out.trans v2;have hb2:=hb1.out.mv v2;have hd2:=p2.d;have hl2:=p2.v;have hdo:=hdn.out w2 h2.g hb2.b (h2.v.m.mono (fun _ _ _ => trivial));rw [← hn.out] at hdo;clear p2 v2;clear e0 e1 e2 e3 e4 e5 e6 e7 ez;have d0:=h2.v.b.cell (i:=0) (v:=.int .i64 V.s.pr) rfl;have d1:=h2.v.b.cell (i:=1) (v:=.int .i64 V.s.pn) rfl;have d2:=h2.v.b.cell (i:=2) (v:=.int .i64 V.s.ar) rfl;have d3:=h2.v.b.cell (i:=3) (v:=.int .i64 V.s.an) rfl;have d4:=h2.v.b.cell (i:=4) (v:=.slice V.a V.s.l.length V.c) rfl;have d5:=h2.v.b.cell (i:=5) (v:=.int .i64 V.s.cl) rfl;have d6:=h2.v.b.cell (i:=6) (v:=.int .i64 V.nu) rfl;have d7:=h2.v.b.cell (i:=7) (v:=.pointer (some ⟨lb,0,none⟩)) rfl;have dz:=h2.v.b.lt;replace h2:=Lib.hid h2;replace v02:=Lib.hid v02;replace hb2:=Lib.hid hb2;replace hd2:=Lib.hid hd2;replace hl2:=Lib.hid hl2;replace hdo:=Lib.hid hdo;go_wp2_with fail;refine hdo.out.mono ?_;rintro q w3 ⟨a9,c9,L9,rfl,hE9,hM9,hn9,hc9,g3⟩;have h3:=h2.out.gr g3;clear d0 d1 d2 d3 d4 d5 d6 d7 dz;have d0:=h3.v.b.cell (i:=0) (v:=.int .i64 V.s.pr) rfl;have d1:=h3.v.b.cell (i:=1) (v:=.int .i64 V.s.pn) rfl;have d2:=h3.v.b.cell (i:=2) (v:=.int .i64 V.s.ar) rfl;have d3:=h3.v.b.cell (i:=3) (v:=.int .i64 V.s.an) rfl;have d4:=h3.v.b.cell (i:=4) (v:=.slice V.a V.s.l.length V.c) rfl;have d5:=h3.v.b.cell (i:=5) (v:=.int .i64 V.s.cl) rfl;have d6:=h3.v.b.cell (i:=6) (v:=.int .i64 V.nu) rfl;have d7:=h3.v.b.cell (i:=7) (v:=.pointer (some ⟨lb,0,none⟩)) rfl;have dz:=h3.v.b.lt;have df0:=h3.v.b.free 0;have df1:=h3.v.b.free 1;have df2:=h3.v.b.free 2;have df3:=h3.v.b.free 3;have df4:=h3.v.b.free 4;have df5:=h3.v.b.free 5;have gs:GrX [vb] w3 ((((((w3.setCell ⟨vb,0,none⟩ (.int .i64 s'.pr)).setCell ⟨vb,1,none⟩ (.int .i64 s'.pn)).setCell ⟨vb,2,none⟩ (.int .i64 s'.ar)).setCell ⟨vb,3,none⟩ (.int .i64 s'.an)).setCell ⟨vb,4,none⟩ (.slice a9 s'.l.length c9)).setCell ⟨vb,5,none⟩ (.int .i64 s'.cl)):=(((((((GrX.refl [vb] w3).set (p:=⟨vb,0,none⟩) (.inl (by simp)) _).set (p:=⟨vb,1,none⟩) (.inl (by simp)) _).set (p:=⟨vb,2,none⟩) (.inl (by simp)) _).set (p:=⟨vb,3,none⟩) (.inl (by simp)) _).set (p:=⟨vb,4,none⟩) (.inl (by simp)) _).set (p:=⟨vb,5,none⟩) (.inl (by simp)) _)
 have hbf:=((((((h3.v.b.set 0 (.int .i64 s'.pr)).set 1 (.int .i64 s'.pn)).set 2 (.int .i64 s'.ar)).set 3 (.int .i64 s'.an)).set 4 (.slice a9 s'.l.length c9)).set 5 (.int .i64 s'.cl))
 obtain ⟨wf,hwf⟩:∃ wf,wf = ((((((w3.setCell ⟨vb,0,none⟩ (.int .i64 s'.pr)).setCell ⟨vb,1,none⟩ (.int .i64 s'.pn)).setCell ⟨vb,2,none⟩ (.int .i64 s'.ar)).setCell ⟨vb,3,none⟩ (.int .i64 s'.an)).setCell ⟨vb,4,none⟩ (.slice a9 s'.l.length c9)).setCell ⟨vb,5,none⟩ (.int .i64 s'.cl)):=⟨_,rfl⟩
 rw [← hwf] at gs hbf;have hfin:∀ wg,Gr wf wg→VwrP W E db lb vb V s' b M L w (.returned .nilIface) wg:=fun wg gg => by
  have hap:∀ y ∈ M2.own db ++ L1.own lb,y ≠ vb:=fun y hy e => h3.v.ap (e ▸ hy)
  have hlt2:∀ y ∈ M2.own db ++ L1.own lb,y < w2.heap.size:=h2.out.own_lt;have hvl:vb < w2.heap.size:=h2.out.v.b.lt;have hMf:LedM (fun x => W.heap.size≤x∧x ∉ vb :: (M2.own db ++ L1.own lb)) wf a9 L9:=by
   rcases hM9 with hM9 | ⟨e1,e2⟩
   ·refine LedM.grx (hM9.mono fun x _ hx => ?_) gs (fun y hy hk => hk.2 (by rw [List.mem_singleton.1 hy];exact List.mem_cons_self));have:=h2.out.g.size;refine ⟨by omega,fun hm => ?_⟩;rcases List.mem_cons.1 hm with e | hm
    ·omega
    ·have:=hlt2 x hm;omega
   ·rw [e1,e2];exact h3.v.m.grx gs (fun y hy hk => hk.2 (by rw [List.mem_singleton.1 hy];exact List.mem_cons_self))
  have hHf:Hold W db lb vb ⟨s',a9,c9,L9,V.nu⟩ M2 L1 wf :=
   ⟨h3.d.grx gs (fun y hy => by simp;exact hap y (List.mem_append_left _ hy)),h3.mw,h3.l.grx gs (fun y hy => by simp;exact hap y (List.mem_append_right _ hy)) (fun x hx y hy => by simp;exact fun e => owns_blk (h3.l.r.d x hx).1 h3.v.b (by decide) (by rw [hy];show some y.block = some vb;rw [e])),⟨hbf,hE9,hMf,hn9,hc9,hs'.out,h3.v.lo,h3.v.ap⟩,GrX.all h3.g gs (fun y hy => by rw [List.mem_singleton.1 hy];exact h3.v.lo)⟩
  have v03:=v02.out.gr g3;have hao:aocE M.d L.v (snapB V.s) b = 0:=by unfold aocE;rw [if_neg (by rw [hz.out];decide)];exact hz.out
  have hdd:syncD M1.d = syncD (aocD M.d L.v (snapB V.s) b):=by unfold aocD;rw [if_neg (by rw [hz.out];decide),hd1.out]
  have hll:L1.v = aocL M.d L.v (snapB V.s) b:=by unfold aocL;rw [if_neg (by rw [hz.out];decide),hl1.out]
  exact ⟨⟨M2,L1,⟨s',a9,c9,L9,V.nu⟩,by rw [hao];rfl,by unfold wrtD;rw [if_pos hao,hd2.out,hdd],by rw [hll],by rw [if_pos hao],rfl,hHf.gr gg,v03.o,by have:=v03.m;omega,((v03.g.mono (fun x hx => List.mem_cons_of_mem _ hx)).trans (gs.mono (fun x hx => by rw [List.mem_singleton.1 hx];exact List.mem_cons_self))).gr gg⟩⟩
 replace hfin:=Lib.hid hfin;replace h3:=Lib.hid h3;replace hM9:=Lib.hid hM9;replace hE9:=Lib.hid hE9;clear gs hbf;replace hwf:=Lib.hid hwf;go_wp2_with fail;go_ret;rw [← hwf.out];exact hfin.out _ ((Gr.refl wf).alloc _)
set_option maxRecDepth 100000 in
set_option maxHeartbeats 12800000 in
theorem write_bad {G:List Nat} {E:Nat→Addr} {W:World} (w:World) (hE:EAt G E W) (i4:0 ∈ G) (i5:1 ∈ G) (i3:5 ∈ G) (i6:2 ∈ G) {db lb vb:Nat} {V:VotM} {M:DskM} {L:LogM} (h:Hold W db lb vb V M L w) (hC:M.m + M.d.C.length≤890000) (h4:4≤M.d.n) (a:Option Addr) (c:Nat) (b:List UInt8) (hb:Byt (M.own db ++ L.own lb) w a c b) (s':VotS) (hs':s'.ok) (hdn:∀ w1,Gr W w1→BytesAt w1 a b→LedM Any w1 V.a V.L→Calls Tryz.prog 45 #[.agg (stC V.s V.a V.s.l.length V.c),.slice a b.length c] w1 (DonP s' V w1)) {k g:Nat} (hk:eV E k = errAt E g) (hg:g ∈ G) (hne:g ≠ 2) (hk0:k ≠ 0) (hk7:k ≠ 7) (hz:appE M.d L.v b = k) :
 Calls Tryz.prog 38 #[.pointer (some ⟨vb,0,none⟩),.slice a b.length c] w (VwrP W E db lb vb V s' b M L w):=by
 obtain ⟨n,hn⟩:∃ n,n = b.length:=⟨_,rfl⟩
 rw [← hn];have hap:=append_any W w hE h.g i4 i5 i3 i6 h.d h.mw h.l (by omega) a c b hb.b hb.n (fun x hx => (hb.x x hx).1) (fun x hx hm => (hb.x x hx).2 (List.mem_append_left _ hm)) h4;rw [← hn,hz,hk] at hap;replace hap:Calls Tryz.prog 82 #[.pointer (some ⟨lb,0,none⟩),.slice a n c] w fun q w' => ∃ M' L',q = .returned (errAt E g)∧LogP W db lb (appD M.d L.v b) (appL M.d L.v b) M M' L L' w w':=hap
 have d0:=h.v.b.cell (i:=0) (v:=.int .i64 V.s.pr) rfl;have d1:=h.v.b.cell (i:=1) (v:=.int .i64 V.s.pn) rfl;have d2:=h.v.b.cell (i:=2) (v:=.int .i64 V.s.ar) rfl;have d3:=h.v.b.cell (i:=3) (v:=.int .i64 V.s.an) rfl;have d4:=h.v.b.cell (i:=4) (v:=.slice V.a V.s.l.length V.c) rfl;have d5:=h.v.b.cell (i:=5) (v:=.int .i64 V.s.cl) rfl;have d6:=h.v.b.cell (i:=6) (v:=.int .i64 V.nu) rfl;have d7:=h.v.b.cell (i:=7) (v:=.pointer (some ⟨lb,0,none⟩)) rfl;have dz:=h.v.b.lt;replace hn:=Lib.hid hn;replace hap:=Lib.hid hap;replace h:=Lib.hid h;replace hb:=Lib.hid hb;replace hE:=Lib.hid hE;replace hdn:=Lib.hid hdn;replace hs':=Lib.hid hs';replace hz:=Lib.hid hz;go_enter Tryz.func38,Tryz.ntmps38;go_wp2_with fail;refine hap.out.mono ?_;rintro q w1 ⟨M1,L1,rfl,p1⟩;obtain ⟨h1,v1⟩:=h.out.logP p1;have hb1:=hb.out.mv v1;have hd1:=p1.d;have hl1:=p1.v;have m1:=v1.m;clear p1;clear d0 d1 d2 d3 d4 d5 d6 d7 dz;have e0:=h1.v.b.cell (i:=0) (v:=.int .i64 V.s.pr) rfl;have e1:=h1.v.b.cell (i:=1) (v:=.int .i64 V.s.pn) rfl;have e2:=h1.v.b.cell (i:=2) (v:=.int .i64 V.s.ar) rfl;have e3:=h1.v.b.cell (i:=3) (v:=.int .i64 V.s.an) rfl;have e4:=h1.v.b.cell (i:=4) (v:=.slice V.a V.s.l.length V.c) rfl;have e5:=h1.v.b.cell (i:=5) (v:=.int .i64 V.s.cl) rfl;have e6:=h1.v.b.cell (i:=6) (v:=.int .i64 V.nu) rfl;have e7:=h1.v.b.cell (i:=7) (v:=.pointer (some ⟨lb,0,none⟩)) rfl;have ez:=h1.v.b.lt;have ef:=(hE.out.gr h1.g).c0 i6;have hgW:=hE.out.gr h1.g;have his:=errIs_call E g 2 w1 false (is2_other hgW hg i6 hne);have hao:aocE M.d L.v (snapB V.s) b = k:=by unfold aocE;rw [if_neg (by rw [hz.out];exact hk7)];exact hz.out
 have hdd:M1.d = aocD M.d L.v (snapB V.s) b:=by unfold aocD;rw [if_neg (by rw [hz.out];exact hk7),hd1]
 have hll:L1.v = aocL M.d L.v (snapB V.s) b:=by unfold aocL;rw [if_neg (by rw [hz.out];exact hk7),hl1]
 replace hao:=Lib.hid hao;replace hdd:=Lib.hid hdd;replace hll:=Lib.hid hll;replace hk:=Lib.hid hk;replace his:=Lib.hid his;replace h1:=Lib.hid h1;replace v1:=Lib.hid v1;replace hb1:=Lib.hid hb1;replace hd1:=Lib.hid hd1;replace hl1:=Lib.hid hl1;replace hgW:=Lib.hid hgW;go_wp2_with fail;refine his.out.mono ?_;rintro q wx ⟨rfl,hwx⟩;rw [hwx];clear hwx;have hfin:VwrP W E db lb vb V s' b M L w (.returned (errAt E g)) w1:=by
  exact ⟨⟨M1,L1,V,by rw [hao.out,hk.out],by unfold wrtD;rw [if_neg (by rw [hao.out];exact hk0)];exact hdd.out,hll.out,by rw [if_neg (by rw [hao.out];exact hk0)],rfl,h1.out,v1.out.o,by have:=v1.out.m;omega,v1.out.g.mono (fun x hx => List.mem_cons_of_mem _ hx)⟩⟩
 replace hfin:=Lib.hid hfin;go_wp2_with fail;go_ret;exact hfin.out
set_option maxRecDepth 100000 in
set_option maxHeartbeats 12800000 in
theorem write_fbad {G:List Nat} {E:Nat→Addr} {W:World} (w:World) (hE:EAt G E W) (i0:4 ∈ G) (i4:0 ∈ G) (i5:1 ∈ G) (i3:5 ∈ G) (i6:2 ∈ G) {db lb vb:Nat} {V:VotM} {M:DskM} {L:LogM} (h:Hold W db lb vb V M L w) (hC:M.m + M.d.C.length≤890000) (h4:4≤M.d.n) (a:Option Addr) (c:Nat) (b:List UInt8) (hb:Byt (M.own db ++ L.own lb) w a c b) (s':VotS) (hs':s'.ok) (hdn:∀ w1,Gr W w1→BytesAt w1 a b→LedM Any w1 V.a V.L→Calls Tryz.prog 45 #[.agg (stC V.s V.a V.s.l.length V.c),.slice a b.length c] w1 (DonP s' V w1)) (hz:appE M.d L.v b = 7) {k g:Nat} (hk:eV E k = errAt E g) (hk0:k ≠ 0) (hz2:chkE M.d L.v (snapB V.s) = k) :
 Calls Tryz.prog 38 #[.pointer (some ⟨vb,0,none⟩),.slice a b.length c] w (VwrP W E db lb vb V s' b M L w):=by
 obtain ⟨n,hn⟩:∃ n,n = b.length:=⟨_,rfl⟩
 rw [← hn];have hap:=append_any W w hE h.g i4 i5 i3 i6 h.d h.mw h.l (by omega) a c b hb.b hb.n (fun x hx => (hb.x x hx).1) (fun x hx hm => (hb.x x hx).2 (List.mem_append_left _ hm)) h4;rw [← hn,hz] at hap;replace hap:Calls Tryz.prog 82 #[.pointer (some ⟨lb,0,none⟩),.slice a n c] w fun q w' => ∃ M' L',q = .returned (errAt E 2)∧LogP W db lb (appD M.d L.v b) (appL M.d L.v b) M M' L L' w w':=hap
 have d0:=h.v.b.cell (i:=0) (v:=.int .i64 V.s.pr) rfl;have d1:=h.v.b.cell (i:=1) (v:=.int .i64 V.s.pn) rfl;have d2:=h.v.b.cell (i:=2) (v:=.int .i64 V.s.ar) rfl;have d3:=h.v.b.cell (i:=3) (v:=.int .i64 V.s.an) rfl;have d4:=h.v.b.cell (i:=4) (v:=.slice V.a V.s.l.length V.c) rfl;have d5:=h.v.b.cell (i:=5) (v:=.int .i64 V.s.cl) rfl;have d6:=h.v.b.cell (i:=6) (v:=.int .i64 V.nu) rfl;have d7:=h.v.b.cell (i:=7) (v:=.pointer (some ⟨lb,0,none⟩)) rfl;have dz:=h.v.b.lt;replace hn:=Lib.hid hn;replace hap:=Lib.hid hap;replace h:=Lib.hid h;replace hb:=Lib.hid hb;replace hE:=Lib.hid hE;replace hdn:=Lib.hid hdn;replace hs':=Lib.hid hs';replace hz:=Lib.hid hz;go_enter Tryz.func38,Tryz.ntmps38;go_wp2_with fail;refine hap.out.mono ?_;rintro q w1 ⟨M1,L1,rfl,p1⟩;obtain ⟨h1,v1⟩:=h.out.logP p1;have hb1:=hb.out.mv v1;have hd1:=p1.d;have hl1:=p1.v;have m1:=v1.m;clear p1;clear d0 d1 d2 d3 d4 d5 d6 d7 dz;have e0:=h1.v.b.cell (i:=0) (v:=.int .i64 V.s.pr) rfl;have e1:=h1.v.b.cell (i:=1) (v:=.int .i64 V.s.pn) rfl;have e2:=h1.v.b.cell (i:=2) (v:=.int .i64 V.s.ar) rfl;have e3:=h1.v.b.cell (i:=3) (v:=.int .i64 V.s.an) rfl;have e4:=h1.v.b.cell (i:=4) (v:=.slice V.a V.s.l.length V.c) rfl;have e5:=h1.v.b.cell (i:=5) (v:=.int .i64 V.s.cl) rfl;have e6:=h1.v.b.cell (i:=6) (v:=.int .i64 V.nu) rfl;have e7:=h1.v.b.cell (i:=7) (v:=.pointer (some ⟨lb,0,none⟩)) rfl;have ez:=h1.v.b.lt;have ef:=(hE.out.gr h1.g).c0 i6;have hgW:=hE.out.gr h1.g;have his:=errIs_call E 2 2 w1 true (is2_same E 2 w1);have hdm:M1.d = M.d:=by rw [hd1];exact appD_same (by rw [hz.out];decide)
 have hlm:L1.v = L.v:=by rw [hl1];exact appL_same (by rw [hz.out];decide)
 have hsb:=sbytes_yes w1 hgW i0 V.s h1.v.ok V.a V.c V.L h1.v.e h1.v.m;replace his:=Lib.hid his;replace hsb:=Lib.hid hsb;replace h1:=Lib.hid h1;replace v1:=Lib.hid v1;replace hb1:=Lib.hid hb1;replace hd1:=Lib.hid hd1;replace hl1:=Lib.hid hl1;replace hgW:=Lib.hid hgW;go_wp2_with fail;refine his.out.mono ?_;rintro q wx ⟨rfl,hwx⟩;rw [hwx];clear hwx;go_wp2_with fail;refine hsb.out.mono ?_;rintro q wS ⟨aS,cS,rfl,hoS⟩;have hS:=h1.out.gr hoS.2.2.2.2;have hbS:=hb1.out.gr hoS.2.2.2.2;have hyS:=h1.out.own_byt (Gr.refl _) hoS;have hck:=checkpoint_any W wS (hE.out) hS.g i4 i5 i3 i6 hS.d hS.mw hS.l (by omega) aS cS (snapB V.s) hyS.b hyS.n (fun x hx => (hyS.x x hx).1) (fun x hx hm => (hyS.x x hx).2 (List.mem_append_left _ hm)) (by rw [hdm];exact h4);rw [hdm,hlm,hz2,hk] at hck;replace hck:Calls Tryz.prog 84 #[.pointer (some ⟨lb,0,none⟩),.slice aS (snapB V.s).length cS] wS fun q w' => ∃ M' L',q = .returned (errAt E g)∧LogP W db lb (chkD M.d L.v (snapB V.s)) (chkL M.d L.v (snapB V.s)) M1 M' L1 L' wS w':=hck
 have vS:=Mv.gr v1.out hoS.2.2.2.2;clear e0 e1 e2 e3 e4 e5 e6 e7 ez;have d0:=hS.v.b.cell (i:=0) (v:=.int .i64 V.s.pr) rfl;have d1:=hS.v.b.cell (i:=1) (v:=.int .i64 V.s.pn) rfl;have d2:=hS.v.b.cell (i:=2) (v:=.int .i64 V.s.ar) rfl;have d3:=hS.v.b.cell (i:=3) (v:=.int .i64 V.s.an) rfl;have d4:=hS.v.b.cell (i:=4) (v:=.slice V.a V.s.l.length V.c) rfl;have d5:=hS.v.b.cell (i:=5) (v:=.int .i64 V.s.cl) rfl;have d6:=hS.v.b.cell (i:=6) (v:=.int .i64 V.nu) rfl;have d7:=hS.v.b.cell (i:=7) (v:=.pointer (some ⟨lb,0,none⟩)) rfl;have dz:=hS.v.b.lt;replace hck:=Lib.hid hck;replace hS:=Lib.hid hS;replace hbS:=Lib.hid hbS;replace hyS:=Lib.hid hyS;replace hoS:=Lib.hid hoS;replace vS:=Lib.hid vS;go_wp2_with fail;refine hck.out.mono ?_;rintro q wC ⟨MC,LC,rfl,pC⟩;obtain ⟨hCk,vC0⟩:=hS.out.logP pC;have hbC:=hbS.out.mv vC0;have vC:=vS.out.trans vC0;have mC:=vC.m;have hdC:=pC.d;have hlC:=pC.v;clear pC;clear d0 d1 d2 d3 d4 d5 d6 d7 dz;have hao:aocE M.d L.v (snapB V.s) b = k:=by unfold aocE;rw [if_pos hz.out,if_neg (by rw [hz2];exact hk0)];exact hz2
 have hdd:MC.d = aocD M.d L.v (snapB V.s) b:=by unfold aocD;rw [if_pos hz.out,if_neg (by rw [hz2];exact hk0)];exact hdC
 have hll:LC.v = aocL M.d L.v (snapB V.s) b:=by unfold aocL;rw [if_pos hz.out,if_neg (by rw [hz2];exact hk0)];exact hlC
 replace hao:=Lib.hid hao;replace hdd:=Lib.hid hdd;replace hll:=Lib.hid hll;replace hk:=Lib.hid hk;replace hCk:=Lib.hid hCk;replace vC:=Lib.hid vC;replace vC0:=Lib.hid vC0;replace hbC:=Lib.hid hbC;replace hdC:=Lib.hid hdC;replace hlC:=Lib.hid hlC;have hfin:VwrP W E db lb vb V s' b M L w (.returned (errAt E g)) wC:=by
  exact ⟨⟨MC,LC,V,by rw [hao.out,hk.out],by unfold wrtD;rw [if_neg (by rw [hao.out];exact hk0)];exact hdd.out,hll.out,by rw [if_neg (by rw [hao.out];exact hk0)],rfl,hCk.out,vC.out.o,by have:=vC.out.m;omega,vC.out.g.mono (fun x hx => List.mem_cons_of_mem _ hx)⟩⟩
 replace hfin:=Lib.hid hfin;go_wp2_with fail;go_ret;exact hfin.out
set_option maxRecDepth 100000 in
set_option maxHeartbeats 12800000 in
theorem write_fno {G:List Nat} {E:Nat→Addr} {W:World} (w:World) (hE:EAt G E W) (i0:4 ∈ G) (i4:0 ∈ G) (i5:1 ∈ G) (i3:5 ∈ G) (i6:2 ∈ G) {db lb vb:Nat} {V:VotM} {M:DskM} {L:LogM} (h:Hold W db lb vb V M L w) (hC:M.m + M.d.C.length≤890000) (h4:4≤M.d.n) (a:Option Addr) (c:Nat) (b:List UInt8) (hb:Byt (M.own db ++ L.own lb) w a c b) (s':VotS) (hs':s'.ok) (hdn:∀ w1,Gr W w1→BytesAt w1 a b→LedM Any w1 V.a V.L→Calls Tryz.prog 45 #[.agg (stC V.s V.a V.s.l.length V.c),.slice a b.length c] w1 (DonP s' V w1)) (hz:appE M.d L.v b = 7) {k g:Nat} (hk:eV E k = errAt E g) (hk0:k ≠ 0) (hz2:chkE M.d L.v (snapB V.s) = 0) (hz3:appE (chkD M.d L.v (snapB V.s)) (chkL M.d L.v (snapB V.s)) b = k) :
 Calls Tryz.prog 38 #[.pointer (some ⟨vb,0,none⟩),.slice a b.length c] w (VwrP W E db lb vb V s' b M L w):=by
 obtain ⟨n,hn⟩:∃ n,n = b.length:=⟨_,rfl⟩
 rw [← hn];have hap:=append_any W w hE h.g i4 i5 i3 i6 h.d h.mw h.l (by omega) a c b hb.b hb.n (fun x hx => (hb.x x hx).1) (fun x hx hm => (hb.x x hx).2 (List.mem_append_left _ hm)) h4;rw [← hn,hz] at hap;replace hap:Calls Tryz.prog 82 #[.pointer (some ⟨lb,0,none⟩),.slice a n c] w fun q w' => ∃ M' L',q = .returned (errAt E 2)∧LogP W db lb (appD M.d L.v b) (appL M.d L.v b) M M' L L' w w':=hap
 have d0:=h.v.b.cell (i:=0) (v:=.int .i64 V.s.pr) rfl;have d1:=h.v.b.cell (i:=1) (v:=.int .i64 V.s.pn) rfl;have d2:=h.v.b.cell (i:=2) (v:=.int .i64 V.s.ar) rfl;have d3:=h.v.b.cell (i:=3) (v:=.int .i64 V.s.an) rfl;have d4:=h.v.b.cell (i:=4) (v:=.slice V.a V.s.l.length V.c) rfl;have d5:=h.v.b.cell (i:=5) (v:=.int .i64 V.s.cl) rfl;have d6:=h.v.b.cell (i:=6) (v:=.int .i64 V.nu) rfl;have d7:=h.v.b.cell (i:=7) (v:=.pointer (some ⟨lb,0,none⟩)) rfl;have dz:=h.v.b.lt;replace hn:=Lib.hid hn;replace hap:=Lib.hid hap;replace h:=Lib.hid h;replace hb:=Lib.hid hb;replace hE:=Lib.hid hE;replace hdn:=Lib.hid hdn;replace hs':=Lib.hid hs';replace hz:=Lib.hid hz;go_enter Tryz.func38,Tryz.ntmps38;go_wp2_with fail;refine hap.out.mono ?_;rintro q w1 ⟨M1,L1,rfl,p1⟩;obtain ⟨h1,v1⟩:=h.out.logP p1;have hb1:=hb.out.mv v1;have hd1:=p1.d;have hl1:=p1.v;have m1:=v1.m;clear p1;clear d0 d1 d2 d3 d4 d5 d6 d7 dz;have e0:=h1.v.b.cell (i:=0) (v:=.int .i64 V.s.pr) rfl;have e1:=h1.v.b.cell (i:=1) (v:=.int .i64 V.s.pn) rfl;have e2:=h1.v.b.cell (i:=2) (v:=.int .i64 V.s.ar) rfl;have e3:=h1.v.b.cell (i:=3) (v:=.int .i64 V.s.an) rfl;have e4:=h1.v.b.cell (i:=4) (v:=.slice V.a V.s.l.length V.c) rfl;have e5:=h1.v.b.cell (i:=5) (v:=.int .i64 V.s.cl) rfl;have e6:=h1.v.b.cell (i:=6) (v:=.int .i64 V.nu) rfl;have e7:=h1.v.b.cell (i:=7) (v:=.pointer (some ⟨lb,0,none⟩)) rfl;have ez:=h1.v.b.lt;have ef:=(hE.out.gr h1.g).c0 i6;have hgW:=hE.out.gr h1.g;have his:=errIs_call E 2 2 w1 true (is2_same E 2 w1);have hdm:M1.d = M.d:=by rw [hd1];exact appD_same (by rw [hz.out];decide)
 have hlm:L1.v = L.v:=by rw [hl1];exact appL_same (by rw [hz.out];decide)
 have hsb:=sbytes_yes w1 hgW i0 V.s h1.v.ok V.a V.c V.L h1.v.e h1.v.m;replace his:=Lib.hid his;replace hsb:=Lib.hid hsb;replace h1:=Lib.hid h1;replace v1:=Lib.hid v1;replace hb1:=Lib.hid hb1;replace hd1:=Lib.hid hd1;replace hl1:=Lib.hid hl1;replace hgW:=Lib.hid hgW;go_wp2_with fail;refine his.out.mono ?_;rintro q wx ⟨rfl,hwx⟩;rw [hwx];clear hwx;go_wp2_with fail;refine hsb.out.mono ?_;rintro q wS ⟨aS,cS,rfl,hoS⟩;have hS:=h1.out.gr hoS.2.2.2.2;have hbS:=hb1.out.gr hoS.2.2.2.2;have hyS:=h1.out.own_byt (Gr.refl _) hoS;have hck:=checkpoint_any W wS (hE.out) hS.g i4 i5 i3 i6 hS.d hS.mw hS.l (by omega) aS cS (snapB V.s) hyS.b hyS.n (fun x hx => (hyS.x x hx).1) (fun x hx hm => (hyS.x x hx).2 (List.mem_append_left _ hm)) (by rw [hdm];exact h4);rw [hdm,hlm,hz2] at hck;replace hck:Calls Tryz.prog 84 #[.pointer (some ⟨lb,0,none⟩),.slice aS (snapB V.s).length cS] wS fun q w' => ∃ M' L',q = .returned .nilIface∧LogP W db lb (chkD M.d L.v (snapB V.s)) (chkL M.d L.v (snapB V.s)) M1 M' L1 L' wS w':=hck
 have vS:=Mv.gr v1.out hoS.2.2.2.2;clear e0 e1 e2 e3 e4 e5 e6 e7 ez;have d0:=hS.v.b.cell (i:=0) (v:=.int .i64 V.s.pr) rfl;have d1:=hS.v.b.cell (i:=1) (v:=.int .i64 V.s.pn) rfl;have d2:=hS.v.b.cell (i:=2) (v:=.int .i64 V.s.ar) rfl;have d3:=hS.v.b.cell (i:=3) (v:=.int .i64 V.s.an) rfl;have d4:=hS.v.b.cell (i:=4) (v:=.slice V.a V.s.l.length V.c) rfl;have d5:=hS.v.b.cell (i:=5) (v:=.int .i64 V.s.cl) rfl;have d6:=hS.v.b.cell (i:=6) (v:=.int .i64 V.nu) rfl;have d7:=hS.v.b.cell (i:=7) (v:=.pointer (some ⟨lb,0,none⟩)) rfl;have dz:=hS.v.b.lt;replace hck:=Lib.hid hck;replace hS:=Lib.hid hS;replace hbS:=Lib.hid hbS;replace hyS:=Lib.hid hyS;replace hoS:=Lib.hid hoS;replace vS:=Lib.hid vS;go_wp2_with fail;refine hck.out.mono ?_;rintro q wC ⟨MC,LC,rfl,pC⟩;obtain ⟨hCk,vC0⟩:=hS.out.logP pC;have hbC:=hbS.out.mv vC0;have vC:=vS.out.trans vC0;have mC:=vC.m;have hdC:=pC.d;have hlC:=pC.v;clear pC;clear d0 d1 d2 d3 d4 d5 d6 d7 dz;have hapA:=append_any W wC (hE.out) hCk.g i4 i5 i3 i6 hCk.d hCk.mw hCk.l (by omega) a c b hbC.b hbC.n (fun x hx => (hbC.x x hx).1) (fun x hx hm => (hbC.x x hx).2 (List.mem_append_left _ hm)) (by rw [hdC];exact Nat.le_trans h4 (Nat.le_of_eq (chkD_n _ _ _).symm));rw [← hn.out,hdC,hlC,hz3,hk] at hapA;replace hapA:Calls Tryz.prog 82 #[.pointer (some ⟨lb,0,none⟩),.slice a n c] wC fun q w' => ∃ M' L',q = .returned (errAt E g)∧LogP W db lb (appD (chkD M.d L.v (snapB V.s)) (chkL M.d L.v (snapB V.s)) b) (appL (chkD M.d L.v (snapB V.s)) (chkL M.d L.v (snapB V.s)) b) MC M' LC L' wC w':=hapA
 have d0:=hCk.v.b.cell (i:=0) (v:=.int .i64 V.s.pr) rfl;have d1:=hCk.v.b.cell (i:=1) (v:=.int .i64 V.s.pn) rfl;have d2:=hCk.v.b.cell (i:=2) (v:=.int .i64 V.s.ar) rfl;have d3:=hCk.v.b.cell (i:=3) (v:=.int .i64 V.s.an) rfl;have d4:=hCk.v.b.cell (i:=4) (v:=.slice V.a V.s.l.length V.c) rfl;have d5:=hCk.v.b.cell (i:=5) (v:=.int .i64 V.s.cl) rfl;have d6:=hCk.v.b.cell (i:=6) (v:=.int .i64 V.nu) rfl;have d7:=hCk.v.b.cell (i:=7) (v:=.pointer (some ⟨lb,0,none⟩)) rfl;have dz:=hCk.v.b.lt;replace hapA:=Lib.hid hapA;replace hCk:=Lib.hid hCk;replace vC:=Lib.hid vC;replace vC0:=Lib.hid vC0;replace hbC:=Lib.hid hbC;replace hdC:=Lib.hid hdC;replace hlC:=Lib.hid hlC;go_wp2_with fail;refine hapA.out.mono ?_;rintro q wA ⟨MA,LA,rfl,pA⟩;obtain ⟨hA,vA0⟩:=hCk.out.logP pA;have hbA:=hbC.out.mv vA0;have vA:=vC.out.trans vA0;have mA:=vA.m;have hdA:=pA.d;have hlA:=pA.v;have hgA:=hE.out.gr hA.g;clear pA vA0;clear d0 d1 d2 d3 d4 d5 d6 d7 dz;have e0:=hA.v.b.cell (i:=0) (v:=.int .i64 V.s.pr) rfl;have e1:=hA.v.b.cell (i:=1) (v:=.int .i64 V.s.pn) rfl;have e2:=hA.v.b.cell (i:=2) (v:=.int .i64 V.s.ar) rfl;have e3:=hA.v.b.cell (i:=3) (v:=.int .i64 V.s.an) rfl;have e4:=hA.v.b.cell (i:=4) (v:=.slice V.a V.s.l.length V.c) rfl;have e5:=hA.v.b.cell (i:=5) (v:=.int .i64 V.s.cl) rfl;have e6:=hA.v.b.cell (i:=6) (v:=.int .i64 V.nu) rfl;have e7:=hA.v.b.cell (i:=7) (v:=.pointer (some ⟨lb,0,none⟩)) rfl;have ez:=hA.v.b.lt;have hao:aocE M.d L.v (snapB V.s) b = k:=by unfold aocE;rw [if_pos hz.out,if_pos hz2];exact hz3
 have hdd:MA.d = aocD M.d L.v (snapB V.s) b:=by unfold aocD;rw [if_pos hz.out,if_pos hz2];exact hdA
 have hll:LA.v = aocL M.d L.v (snapB V.s) b:=by unfold aocL;rw [if_pos hz.out,if_pos hz2];exact hlA
 replace hao:=Lib.hid hao;replace hdd:=Lib.hid hdd;replace hll:=Lib.hid hll;replace hk:=Lib.hid hk;replace hA:=Lib.hid hA;replace vA:=Lib.hid vA;replace hbA:=Lib.hid hbA;replace hdA:=Lib.hid hdA;replace hlA:=Lib.hid hlA;replace hgA:=Lib.hid hgA;have hfin:VwrP W E db lb vb V s' b M L w (.returned (errAt E g)) wA:=by
  exact ⟨⟨MA,LA,V,by rw [hao.out,hk.out],by unfold wrtD;rw [if_neg (by rw [hao.out];exact hk0)];exact hdd.out,hll.out,by rw [if_neg (by rw [hao.out];exact hk0)],rfl,hA.out,vA.out.o,by have:=vA.out.m;omega,vA.out.g.mono (fun x hx => List.mem_cons_of_mem _ hx)⟩⟩
 replace hfin:=Lib.hid hfin;go_wp2_with fail;go_ret;exact hfin.out
set_option maxRecDepth 100000 in
set_option maxHeartbeats 12800000 in
theorem write_fok {G:List Nat} {E:Nat→Addr} {W:World} (w:World) (hE:EAt G E W) (i0:4 ∈ G) (i4:0 ∈ G) (i5:1 ∈ G) (i3:5 ∈ G) (i6:2 ∈ G) {db lb vb:Nat} {V:VotM} {M:DskM} {L:LogM} (h:Hold W db lb vb V M L w) (hC:M.m + M.d.C.length≤890000) (h4:4≤M.d.n) (a:Option Addr) (c:Nat) (b:List UInt8) (hb:Byt (M.own db ++ L.own lb) w a c b) (s':VotS) (hs':s'.ok) (hdn:∀ w1,Gr W w1→BytesAt w1 a b→LedM Any w1 V.a V.L→Calls Tryz.prog 45 #[.agg (stC V.s V.a V.s.l.length V.c),.slice a b.length c] w1 (DonP s' V w1)) (hz:appE M.d L.v b = 7) (hlost:M.d.lost = false) (hz2:chkE M.d L.v (snapB V.s) = 0) (hz3:appE (chkD M.d L.v (snapB V.s)) (chkL M.d L.v (snapB V.s)) b = 0) :
 Calls Tryz.prog 38 #[.pointer (some ⟨vb,0,none⟩),.slice a b.length c] w (VwrP W E db lb vb V s' b M L w):=by
 obtain ⟨n,hn⟩:∃ n,n = b.length:=⟨_,rfl⟩
 rw [← hn];have hap:=append_any W w hE h.g i4 i5 i3 i6 h.d h.mw h.l (by omega) a c b hb.b hb.n (fun x hx => (hb.x x hx).1) (fun x hx hm => (hb.x x hx).2 (List.mem_append_left _ hm)) h4;rw [← hn,hz] at hap;replace hap:Calls Tryz.prog 82 #[.pointer (some ⟨lb,0,none⟩),.slice a n c] w fun q w' => ∃ M' L',q = .returned (errAt E 2)∧LogP W db lb (appD M.d L.v b) (appL M.d L.v b) M M' L L' w w':=hap
 have d0:=h.v.b.cell (i:=0) (v:=.int .i64 V.s.pr) rfl;have d1:=h.v.b.cell (i:=1) (v:=.int .i64 V.s.pn) rfl;have d2:=h.v.b.cell (i:=2) (v:=.int .i64 V.s.ar) rfl;have d3:=h.v.b.cell (i:=3) (v:=.int .i64 V.s.an) rfl;have d4:=h.v.b.cell (i:=4) (v:=.slice V.a V.s.l.length V.c) rfl;have d5:=h.v.b.cell (i:=5) (v:=.int .i64 V.s.cl) rfl;have d6:=h.v.b.cell (i:=6) (v:=.int .i64 V.nu) rfl;have d7:=h.v.b.cell (i:=7) (v:=.pointer (some ⟨lb,0,none⟩)) rfl;have dz:=h.v.b.lt;replace hn:=Lib.hid hn;replace hap:=Lib.hid hap;replace h:=Lib.hid h;replace hb:=Lib.hid hb;replace hE:=Lib.hid hE;replace hdn:=Lib.hid hdn;replace hs':=Lib.hid hs';replace hz:=Lib.hid hz;go_enter Tryz.func38,Tryz.ntmps38;go_wp2_with fail;refine hap.out.mono ?_;rintro q w1 ⟨M1,L1,rfl,p1⟩;obtain ⟨h1,v1⟩:=h.out.logP p1;have hb1:=hb.out.mv v1;have hd1:=p1.d;have hl1:=p1.v;have m1:=v1.m;clear p1;clear d0 d1 d2 d3 d4 d5 d6 d7 dz;have e0:=h1.v.b.cell (i:=0) (v:=.int .i64 V.s.pr) rfl;have e1:=h1.v.b.cell (i:=1) (v:=.int .i64 V.s.pn) rfl;have e2:=h1.v.b.cell (i:=2) (v:=.int .i64 V.s.ar) rfl;have e3:=h1.v.b.cell (i:=3) (v:=.int .i64 V.s.an) rfl;have e4:=h1.v.b.cell (i:=4) (v:=.slice V.a V.s.l.length V.c) rfl;have e5:=h1.v.b.cell (i:=5) (v:=.int .i64 V.s.cl) rfl;have e6:=h1.v.b.cell (i:=6) (v:=.int .i64 V.nu) rfl;have e7:=h1.v.b.cell (i:=7) (v:=.pointer (some ⟨lb,0,none⟩)) rfl;have ez:=h1.v.b.lt;have ef:=(hE.out.gr h1.g).c0 i6;have hgW:=hE.out.gr h1.g;have his:=errIs_call E 2 2 w1 true (is2_same E 2 w1);have hdm:M1.d = M.d:=by rw [hd1];exact appD_same (by rw [hz.out];decide)
 have hlm:L1.v = L.v:=by rw [hl1];exact appL_same (by rw [hz.out];decide)
 have hsb:=sbytes_yes w1 hgW i0 V.s h1.v.ok V.a V.c V.L h1.v.e h1.v.m;replace his:=Lib.hid his;replace hsb:=Lib.hid hsb;replace h1:=Lib.hid h1;replace v1:=Lib.hid v1;replace hb1:=Lib.hid hb1;replace hd1:=Lib.hid hd1;replace hl1:=Lib.hid hl1;replace hgW:=Lib.hid hgW;go_wp2_with fail;refine his.out.mono ?_;rintro q wx ⟨rfl,hwx⟩;rw [hwx];clear hwx;go_wp2_with fail;refine hsb.out.mono ?_;rintro q wS ⟨aS,cS,rfl,hoS⟩;have hS:=h1.out.gr hoS.2.2.2.2;have hbS:=hb1.out.gr hoS.2.2.2.2;have hyS:=h1.out.own_byt (Gr.refl _) hoS;have hck:=checkpoint_any W wS (hE.out) hS.g i4 i5 i3 i6 hS.d hS.mw hS.l (by omega) aS cS (snapB V.s) hyS.b hyS.n (fun x hx => (hyS.x x hx).1) (fun x hx hm => (hyS.x x hx).2 (List.mem_append_left _ hm)) (by rw [hdm];exact h4);rw [hdm,hlm,hz2] at hck;replace hck:Calls Tryz.prog 84 #[.pointer (some ⟨lb,0,none⟩),.slice aS (snapB V.s).length cS] wS fun q w' => ∃ M' L',q = .returned .nilIface∧LogP W db lb (chkD M.d L.v (snapB V.s)) (chkL M.d L.v (snapB V.s)) M1 M' L1 L' wS w':=hck
 have vS:=Mv.gr v1.out hoS.2.2.2.2;clear e0 e1 e2 e3 e4 e5 e6 e7 ez;have d0:=hS.v.b.cell (i:=0) (v:=.int .i64 V.s.pr) rfl;have d1:=hS.v.b.cell (i:=1) (v:=.int .i64 V.s.pn) rfl;have d2:=hS.v.b.cell (i:=2) (v:=.int .i64 V.s.ar) rfl;have d3:=hS.v.b.cell (i:=3) (v:=.int .i64 V.s.an) rfl;have d4:=hS.v.b.cell (i:=4) (v:=.slice V.a V.s.l.length V.c) rfl;have d5:=hS.v.b.cell (i:=5) (v:=.int .i64 V.s.cl) rfl;have d6:=hS.v.b.cell (i:=6) (v:=.int .i64 V.nu) rfl;have d7:=hS.v.b.cell (i:=7) (v:=.pointer (some ⟨lb,0,none⟩)) rfl;have dz:=hS.v.b.lt;replace hck:=Lib.hid hck;replace hS:=Lib.hid hS;replace hbS:=Lib.hid hbS;replace hyS:=Lib.hid hyS;replace hoS:=Lib.hid hoS;replace vS:=Lib.hid vS;go_wp2_with fail;refine hck.out.mono ?_;rintro q wC ⟨MC,LC,rfl,pC⟩;obtain ⟨hCk,vC0⟩:=hS.out.logP pC;have hbC:=hbS.out.mv vC0;have vC:=vS.out.trans vC0;have mC:=vC.m;have hdC:=pC.d;have hlC:=pC.v;clear pC;clear d0 d1 d2 d3 d4 d5 d6 d7 dz;have hapA:=append_any W wC (hE.out) hCk.g i4 i5 i3 i6 hCk.d hCk.mw hCk.l (by omega) a c b hbC.b hbC.n (fun x hx => (hbC.x x hx).1) (fun x hx hm => (hbC.x x hx).2 (List.mem_append_left _ hm)) (by rw [hdC];exact Nat.le_trans h4 (Nat.le_of_eq (chkD_n _ _ _).symm));rw [← hn.out,hdC,hlC,hz3] at hapA;replace hapA:Calls Tryz.prog 82 #[.pointer (some ⟨lb,0,none⟩),.slice a n c] wC fun q w' => ∃ M' L',q = .returned .nilIface∧LogP W db lb (appD (chkD M.d L.v (snapB V.s)) (chkL M.d L.v (snapB V.s)) b) (appL (chkD M.d L.v (snapB V.s)) (chkL M.d L.v (snapB V.s)) b) MC M' LC L' wC w':=hapA
 have d0:=hCk.v.b.cell (i:=0) (v:=.int .i64 V.s.pr) rfl;have d1:=hCk.v.b.cell (i:=1) (v:=.int .i64 V.s.pn) rfl;have d2:=hCk.v.b.cell (i:=2) (v:=.int .i64 V.s.ar) rfl;have d3:=hCk.v.b.cell (i:=3) (v:=.int .i64 V.s.an) rfl;have d4:=hCk.v.b.cell (i:=4) (v:=.slice V.a V.s.l.length V.c) rfl;have d5:=hCk.v.b.cell (i:=5) (v:=.int .i64 V.s.cl) rfl;have d6:=hCk.v.b.cell (i:=6) (v:=.int .i64 V.nu) rfl;have d7:=hCk.v.b.cell (i:=7) (v:=.pointer (some ⟨lb,0,none⟩)) rfl;have dz:=hCk.v.b.lt;replace hapA:=Lib.hid hapA;replace hCk:=Lib.hid hCk;replace vC:=Lib.hid vC;replace vC0:=Lib.hid vC0;replace hbC:=Lib.hid hbC;replace hdC:=Lib.hid hdC;replace hlC:=Lib.hid hlC;go_wp2_with fail;refine hapA.out.mono ?_;rintro q wA ⟨MA,LA,rfl,pA⟩;obtain ⟨hA,vA0⟩:=hCk.out.logP pA;have hbA:=hbC.out.mv vA0;have vA:=vC.out.trans vA0;have mA:=vA.m;have hdA:=pA.d;have hlA:=pA.v;have hgA:=hE.out.gr hA.g;clear pA vA0;clear d0 d1 d2 d3 d4 d5 d6 d7 dz;have e0:=hA.v.b.cell (i:=0) (v:=.int .i64 V.s.pr) rfl;have e1:=hA.v.b.cell (i:=1) (v:=.int .i64 V.s.pn) rfl;have e2:=hA.v.b.cell (i:=2) (v:=.int .i64 V.s.ar) rfl;have e3:=hA.v.b.cell (i:=3) (v:=.int .i64 V.s.an) rfl;have e4:=hA.v.b.cell (i:=4) (v:=.slice V.a V.s.l.length V.c) rfl;have e5:=hA.v.b.cell (i:=5) (v:=.int .i64 V.s.cl) rfl;have e6:=hA.v.b.cell (i:=6) (v:=.int .i64 V.nu) rfl;have e7:=hA.v.b.cell (i:=7) (v:=.pointer (some ⟨lb,0,none⟩)) rfl;have ez:=hA.v.b.lt;have hlo:MA.d.lost = false:=by rw [hdA,appD_lost,chkD_lost];exact hlost
 replace hlo:=Lib.hid hlo;replace hA:=Lib.hid hA;replace vA:=Lib.hid vA;replace hbA:=Lib.hid hbA;replace hdA:=Lib.hid hdA;replace hlA:=Lib.hid hlA;replace hgA:=Lib.hid hgA;have hsy:=sync_any W wA hgA.out i4 hA.out.d hA.out.l (by omega);rw [syncE_no hlo.out] at hsy;replace hsy:Calls Tryz.prog 85 #[.pointer (some ⟨lb,0,none⟩)] wA fun q w' => ∃ M',q = .returned .nilIface∧LogP W db lb (syncD MA.d) LA.v MA M' LA LA wA w':=hsy
 replace hsy:=Lib.hid hsy;go_wp2_with fail;refine hsy.out.mono ?_;rintro q w2 ⟨M2,rfl,p2⟩;obtain ⟨h2,v2⟩:=hA.out.logP p2;have v02:=vA.out.trans v2;have hb2:=hbA.out.mv v2;have hd2:=p2.d;have hl2:=p2.v;have hdo:=hdn.out w2 h2.g hb2.b (h2.v.m.mono (fun _ _ _ => trivial));rw [← hn.out] at hdo;clear p2 v2;clear e0 e1 e2 e3 e4 e5 e6 e7 ez;have d0:=h2.v.b.cell (i:=0) (v:=.int .i64 V.s.pr) rfl;have d1:=h2.v.b.cell (i:=1) (v:=.int .i64 V.s.pn) rfl;have d2:=h2.v.b.cell (i:=2) (v:=.int .i64 V.s.ar) rfl;have d3:=h2.v.b.cell (i:=3) (v:=.int .i64 V.s.an) rfl;have d4:=h2.v.b.cell (i:=4) (v:=.slice V.a V.s.l.length V.c) rfl;have d5:=h2.v.b.cell (i:=5) (v:=.int .i64 V.s.cl) rfl;have d6:=h2.v.b.cell (i:=6) (v:=.int .i64 V.nu) rfl;have d7:=h2.v.b.cell (i:=7) (v:=.pointer (some ⟨lb,0,none⟩)) rfl;have dz:=h2.v.b.lt;replace h2:=Lib.hid h2;replace v02:=Lib.hid v02;replace hb2:=Lib.hid hb2;replace hd2:=Lib.hid hd2;replace hl2:=Lib.hid hl2;replace hdo:=Lib.hid hdo;go_wp2_with fail;refine hdo.out.mono ?_;rintro q w3 ⟨a9,c9,L9,rfl,hE9,hM9,hn9,hc9,g3⟩;have h3:=h2.out.gr g3;clear d0 d1 d2 d3 d4 d5 d6 d7 dz;have d0:=h3.v.b.cell (i:=0) (v:=.int .i64 V.s.pr) rfl;have d1:=h3.v.b.cell (i:=1) (v:=.int .i64 V.s.pn) rfl;have d2:=h3.v.b.cell (i:=2) (v:=.int .i64 V.s.ar) rfl;have d3:=h3.v.b.cell (i:=3) (v:=.int .i64 V.s.an) rfl;have d4:=h3.v.b.cell (i:=4) (v:=.slice V.a V.s.l.length V.c) rfl;have d5:=h3.v.b.cell (i:=5) (v:=.int .i64 V.s.cl) rfl;have d6:=h3.v.b.cell (i:=6) (v:=.int .i64 V.nu) rfl;have d7:=h3.v.b.cell (i:=7) (v:=.pointer (some ⟨lb,0,none⟩)) rfl;have dz:=h3.v.b.lt;have df0:=h3.v.b.free 0;have df1:=h3.v.b.free 1;have df2:=h3.v.b.free 2;have df3:=h3.v.b.free 3;have df4:=h3.v.b.free 4;have df5:=h3.v.b.free 5;have gs:GrX [vb] w3 ((((((w3.setCell ⟨vb,0,none⟩ (.int .i64 s'.pr)).setCell ⟨vb,1,none⟩ (.int .i64 s'.pn)).setCell ⟨vb,2,none⟩ (.int .i64 s'.ar)).setCell ⟨vb,3,none⟩ (.int .i64 s'.an)).setCell ⟨vb,4,none⟩ (.slice a9 s'.l.length c9)).setCell ⟨vb,5,none⟩ (.int .i64 s'.cl)):=(((((((GrX.refl [vb] w3).set (p:=⟨vb,0,none⟩) (.inl (by simp)) _).set (p:=⟨vb,1,none⟩) (.inl (by simp)) _).set (p:=⟨vb,2,none⟩) (.inl (by simp)) _).set (p:=⟨vb,3,none⟩) (.inl (by simp)) _).set (p:=⟨vb,4,none⟩) (.inl (by simp)) _).set (p:=⟨vb,5,none⟩) (.inl (by simp)) _)
 have hbf:=((((((h3.v.b.set 0 (.int .i64 s'.pr)).set 1 (.int .i64 s'.pn)).set 2 (.int .i64 s'.ar)).set 3 (.int .i64 s'.an)).set 4 (.slice a9 s'.l.length c9)).set 5 (.int .i64 s'.cl))
 obtain ⟨wf,hwf⟩:∃ wf,wf = ((((((w3.setCell ⟨vb,0,none⟩ (.int .i64 s'.pr)).setCell ⟨vb,1,none⟩ (.int .i64 s'.pn)).setCell ⟨vb,2,none⟩ (.int .i64 s'.ar)).setCell ⟨vb,3,none⟩ (.int .i64 s'.an)).setCell ⟨vb,4,none⟩ (.slice a9 s'.l.length c9)).setCell ⟨vb,5,none⟩ (.int .i64 s'.cl)):=⟨_,rfl⟩
 rw [← hwf] at gs hbf;have hfin:∀ wg,Gr wf wg→VwrP W E db lb vb V s' b M L w (.returned .nilIface) wg:=fun wg gg => by
  have hap:∀ y ∈ M2.own db ++ LA.own lb,y ≠ vb:=fun y hy e => h3.v.ap (e ▸ hy)
  have hlt2:∀ y ∈ M2.own db ++ LA.own lb,y < w2.heap.size:=h2.out.own_lt;have hvl:vb < w2.heap.size:=h2.out.v.b.lt;have hMf:LedM (fun x => W.heap.size≤x∧x ∉ vb :: (M2.own db ++ LA.own lb)) wf a9 L9:=by
   rcases hM9 with hM9 | ⟨e1,e2⟩
   ·refine LedM.grx (hM9.mono fun x _ hx => ?_) gs (fun y hy hk => hk.2 (by rw [List.mem_singleton.1 hy];exact List.mem_cons_self));have:=h2.out.g.size;refine ⟨by omega,fun hm => ?_⟩;rcases List.mem_cons.1 hm with e | hm
    ·omega
    ·have:=hlt2 x hm;omega
   ·rw [e1,e2];exact h3.v.m.grx gs (fun y hy hk => hk.2 (by rw [List.mem_singleton.1 hy];exact List.mem_cons_self))
  have hHf:Hold W db lb vb ⟨s',a9,c9,L9,V.nu⟩ M2 LA wf :=
   ⟨h3.d.grx gs (fun y hy => by simp;exact hap y (List.mem_append_left _ hy)),h3.mw,h3.l.grx gs (fun y hy => by simp;exact hap y (List.mem_append_right _ hy)) (fun x hx y hy => by simp;exact fun e => owns_blk (h3.l.r.d x hx).1 h3.v.b (by decide) (by rw [hy];show some y.block = some vb;rw [e])),⟨hbf,hE9,hMf,hn9,hc9,hs'.out,h3.v.lo,h3.v.ap⟩,GrX.all h3.g gs (fun y hy => by rw [List.mem_singleton.1 hy];exact h3.v.lo)⟩
  have v03:=v02.out.gr g3;have hao:aocE M.d L.v (snapB V.s) b = 0:=by unfold aocE;rw [if_pos hz.out,if_pos hz2];exact hz3
  have hdd:syncD MA.d = syncD (aocD M.d L.v (snapB V.s) b):=by unfold aocD;rw [if_pos hz.out,if_pos hz2,hdA.out]
  have hll:LA.v = aocL M.d L.v (snapB V.s) b:=by unfold aocL;rw [if_pos hz.out,if_pos hz2,hlA.out]
  exact ⟨⟨M2,LA,⟨s',a9,c9,L9,V.nu⟩,by rw [hao];rfl,by unfold wrtD;rw [if_pos hao,hd2.out,hdd],by rw [hll],by rw [if_pos hao],rfl,hHf.gr gg,v03.o,by have:=v03.m;omega,((v03.g.mono (fun x hx => List.mem_cons_of_mem _ hx)).trans (gs.mono (fun x hx => by rw [List.mem_singleton.1 hx];exact List.mem_cons_self))).gr gg⟩⟩
 replace hfin:=Lib.hid hfin;replace h3:=Lib.hid h3;replace hM9:=Lib.hid hM9;replace hE9:=Lib.hid hE9;clear gs hbf;replace hwf:=Lib.hid hwf;go_wp2_with fail;go_ret;rw [← hwf.out];exact hfin.out _ ((Gr.refl wf).alloc _)
theorem eV_err (E:Nat→Addr):eV E 7 = errAt E 2∧eV E 8 = errAt E 5∧eV E 9 = errAt E 0:=⟨rfl,rfl,rfl⟩
theorem write_any {G:List Nat} {E:Nat→Addr} {W:World} (w:World) (hE:EAt G E W) (i0:4 ∈ G) (i4:0 ∈ G) (i5:1 ∈ G) (i3:5 ∈ G) (i6:2 ∈ G) {db lb vb:Nat} {V:VotM} {M:DskM} {L:LogM} (h:Hold W db lb vb V M L w) (hC:M.m + M.d.C.length≤890000) (h4:4≤M.d.n) (a:Option Addr) (c:Nat) (b:List UInt8) (hb:Byt (M.own db ++ L.own lb) w a c b) (s':VotS) (hs':s'.ok) (hdn:∀ w1,Gr W w1→BytesAt w1 a b→LedM Any w1 V.a V.L→Calls Tryz.prog 45 #[.agg (stC V.s V.a V.s.l.length V.c),.slice a b.length c] w1 (DonP s' V w1)) :
 Calls Tryz.prog 38 #[.pointer (some ⟨vb,0,none⟩),.slice a b.length c] w (VwrP W E db lb vb V s' b M L w):=by
 obtain ⟨e7,e8,e9⟩:=eV_err E;rcases appE_cases M.d L.v b with ⟨hz,hlost⟩ | hz | hz | hz
 ·exact write_ok w hE i4 i5 i3 i6 h hC h4 a c b hb s' hs' hdn hz hlost
 ·rcases chkE_cases M.d L.v (snapB V.s) with ⟨hz2,hlost⟩ | hz2 | hz2 | hz2
  ·rcases appE_cases (chkD M.d L.v (snapB V.s)) (chkL M.d L.v (snapB V.s)) b with ⟨hz3,_⟩ | hz3 | hz3 | hz3
   ·exact write_fok w hE i0 i4 i5 i3 i6 h hC h4 a c b hb s' hs' hdn hz hlost hz2 hz3
   ·exact write_fno w hE i0 i4 i5 i3 i6 h hC h4 a c b hb s' hs' hdn hz e7 (by decide) hz2 hz3
   ·exact write_fno w hE i0 i4 i5 i3 i6 h hC h4 a c b hb s' hs' hdn hz e8 (by decide) hz2 hz3
   ·exact write_fno w hE i0 i4 i5 i3 i6 h hC h4 a c b hb s' hs' hdn hz e9 (by decide) hz2 hz3
  ·exact write_fbad w hE i0 i4 i5 i3 i6 h hC h4 a c b hb s' hs' hdn hz e7 (by decide) hz2
  ·exact write_fbad w hE i0 i4 i5 i3 i6 h hC h4 a c b hb s' hs' hdn hz e8 (by decide) hz2
  ·exact write_fbad w hE i0 i4 i5 i3 i6 h hC h4 a c b hb s' hs' hdn hz e9 (by decide) hz2
 ·exact write_bad w hE i4 i5 i3 i6 h hC h4 a c b hb s' hs' hdn e8 i3 (by decide) (by decide) (by decide) hz
 ·exact write_bad w hE i4 i5 i3 i6 h hC h4 a c b hb s' hs' hdn e9 i4 (by decide) (by decide) (by decide) hz
end Go.Proofs.YteigofaccjaobaaGreatDoor
