/- wal.Log.Append. Printed by gen_i33.py. -/
import Derived.Test.YteigofaccjaobaaGreatDoorKL13
namespace Go.Proofs.YteigofaccjaobaaGreatDoor
open Go.RowKit
def appR (v:LogV) (b:List UInt8):Rc:=⟨v.g,v.e,v.rs.length,b⟩
def appE (d:DskV) (v:LogV) (b:List UInt8):Nat:=if d.lost = true then 9 else if 32000 < b.length then 8 else if fitsB (usedR v.rs) (halfD d) (appR v b) = true then 0 else 7
def appD (d:DskV) (v:LogV) (b:List UInt8):DskV:=if appE d v b = 0 then putD d (firstD d v.s + usedR v.rs) (frR (appR v b)) else d
def appL (d:DskV) (v:LogV) (b:List UInt8):LogV:=if appE d v b = 0 then {v with rs:=v.rs ++ [appR v b]} else v
set_option maxRecDepth 100000 in
set_option maxHeartbeats 3200000 in
theorem append_call (w:World) {lb db f n u k rc g e:Nat} {ra:Option Addr} (hb:Blk w lb (logC db f n u ra k rc g e) 164) (a:Option Addr) (l c:Nat) {V:Value} {Q:World→Prop}
 (hw:Calls Tryz.prog 79 #[.pointer (some ⟨lb,1,none⟩),.pointer (some ⟨db,0,none⟩),.agg #[.int .i64 g,.int .i64 e,.int .i64 k,.slice a l c]] w.drew fun q w' => q = .returned V∧Q w') :
 Calls Tryz.prog 82 #[.pointer (some ⟨lb,0,none⟩),.slice a l c] w fun q w' => q = .returned V∧Q w':=by
 have c0:=hb.cell (i:=0) (v:=.pointer (some ⟨db,0,none⟩)) rfl;have c4:=hb.cell (i:=4) (v:=.slice ra k rc) rfl;have c5:=hb.cell (i:=5) (v:=.int .i64 g) rfl;have c6:=hb.cell (i:=6) (v:=.int .i64 e) rfl;have z:=hb.lt;replace hb:=Lib.hid hb;replace hw:=Lib.hid hw;go_enter Tryz.func82,Tryz.ntmps82;go_upto_region 1 with fail
 have hS0:(fun w' => w'.cell? ⟨lb,0,none⟩ = some (.pointer (some ⟨db,0,none⟩))∧w'.cell? ⟨lb,4,none⟩ = some (.slice ra k rc)∧w'.cell? ⟨lb,5,none⟩ = some (.int .i64 g)∧w'.cell? ⟨lb,6,none⟩ = some (.int .i64 e)) w.drew:=⟨c0,c4,c5,c6⟩
 refine wp_region_X [23] (fun w' => w'.cell? ⟨lb,0,none⟩ = some (.pointer (some ⟨db,0,none⟩))∧w'.cell? ⟨lb,4,none⟩ = some (.slice ra k rc)∧w'.cell? ⟨lb,5,none⟩ = some (.int .i64 g)∧w'.cell? ⟨lb,6,none⟩ = some (.int .i64 e)) (fun _ => True) (by kernel_rfl) ?_;refine wpAnyX_takeT (i:=0) (v:=?v0a) rfl (by kernel_rfl) (by kernel_rfl) (by kernel_rfl) (by decide) (fun _ _ _ h => h) (by rfl) ?y0a trivial (fun _ => hS0) ?r0a;case y0a => (intro w hSw;(try dsimp only at hSw);go_simp;try with_reducible rfl)
 try simp only [Act.put,List.setIfInBounds_toArray]
 refine wpAnyX_takeT (i:=1) (v:=?v1a) rfl (by kernel_rfl) (by kernel_rfl) (by kernel_rfl) (by decide) (fun _ _ _ h => h) (by rfl) ?y1a trivial (fun _ => hS0) ?r1a;case y1a => (intro w hSw;(try dsimp only at hSw);go_simp;try with_reducible rfl)
 try simp only [Act.put]
 refine wpAnyX_takeT (i:=2) (v:=?v2a) rfl (by kernel_rfl) (by kernel_rfl) (by kernel_rfl) (by decide) (fun _ _ _ h => h) (by rfl) ?y2a trivial (fun _ => hS0) ?r2a;case y2a => (intro w hSw;(try dsimp only at hSw);go_simp;try with_reducible rfl)
 try simp only [Act.put]
 refine wpAnyX_takeT (i:=3) (v:=?v3a) rfl (by kernel_rfl) (by kernel_rfl) (by kernel_rfl) (by decide) (fun _ _ _ h => h) (by rfl) ?y3a trivial (fun _ => hS0) ?r3a;case y3a => (intro w hSw;(try dsimp only at hSw);go_simp;try with_reducible rfl)
 try simp only [Act.put]
 refine wpAnyX_takeT (i:=4) (v:=?v4a) rfl (by kernel_rfl) (by kernel_rfl) (by kernel_rfl) (by decide) (fun _ _ _ h => h) (by rfl) ?y4a trivial (fun _ => hS0) ?r4a;case y4a => (intro w hSw;(try dsimp only at hSw);go_simp;try with_reducible rfl)
 try simp only [Act.put]
 refine wpAnyX_takeT (i:=5) (v:=?v5a) rfl (by kernel_rfl) (by kernel_rfl) (by kernel_rfl) (by decide) (fun _ _ _ h => h) (by rfl) ?y5a trivial (fun _ => hS0) ?r5a;case y5a => (intro w hSw;(try dsimp only at hSw);go_simp;try with_reducible rfl)
 try simp only [Act.put]
 refine wpAnyX_takeD (i:=6) (v:=?v6a) 3 rfl (by kernel_rfl) (by kernel_rfl) (by kernel_rfl) (by kernel_rfl) (by kernel_rfl) (by kernel_rfl) (by decide) (fun _ _ _ h => h) (by rfl) ?y6a ⟨hS0,trivial⟩ ?r6a;case y6a => (intro w hSw;(try dsimp only at hSw);go_simp;try with_reducible rfl)
 try simp only [Act.put]
 refine wpAnyX_takeT (i:=7) (v:=?v7a) rfl (by kernel_rfl) (by kernel_rfl) (by kernel_rfl) (by decide) (fun _ _ _ h => h) (by rfl) ?y7a trivial (fun _ => hS0) ?r7a;case y7a => (intro w hSw;(try dsimp only at hSw);go_simp;try with_reducible rfl)
 try simp only [Act.put]
 refine wpAnyX_takeT (i:=8) (v:=?v8a) rfl (by kernel_rfl) (by kernel_rfl) (by kernel_rfl) (by decide) (fun _ _ _ h => h) (by rfl) ?y8a trivial (fun _ => hS0) ?r8a;case y8a => (intro w hSw;(try dsimp only at hSw);go_simp;try with_reducible rfl)
 try simp only [Act.put]
 refine wpAnyX_takeT (i:=9) (v:=?v9a) rfl (by kernel_rfl) (by kernel_rfl) (by kernel_rfl) (by decide) (fun _ _ _ h => h) (by rfl) ?y9a trivial (fun _ => hS0) ?r9a;case y9a => (intro w hSw;(try dsimp only at hSw);go_simp;try with_reducible rfl)
 try simp only [Act.put]
 refine wpAnyX_takeD (i:=10) (v:=?v10a) 3 rfl (by kernel_rfl) (by kernel_rfl) (by kernel_rfl) (by kernel_rfl) (by kernel_rfl) (by kernel_rfl) (by decide) (fun _ _ _ h => h) (by rfl) ?y10a ⟨hS0,trivial⟩ ?r10a;case y10a => (intro w hSw;(try dsimp only at hSw);go_simp;try with_reducible rfl)
 try simp only [Act.put]
 refine wpAnyX_takeT (i:=11) (v:=?v11a) rfl (by kernel_rfl) (by kernel_rfl) (by kernel_rfl) (by decide) (fun _ _ _ h => h) (by rfl) ?y11a trivial (fun _ => hS0) ?r11a;case y11a => (intro w hSw;(try dsimp only at hSw);go_simp;try with_reducible rfl)
 try simp only [Act.put]
 refine wpAnyX_takeT (i:=12) (v:=?v12a) rfl (by kernel_rfl) (by kernel_rfl) (by kernel_rfl) (by decide) (fun _ _ _ h => h) (by rfl) ?y12a trivial (fun _ => hS0) ?r12a;case y12a => (intro w hSw;(try dsimp only at hSw);go_simp;try with_reducible rfl)
 try simp only [Act.put]
 refine wpAnyX_takeT (i:=13) (v:=?v13a) rfl (by kernel_rfl) (by kernel_rfl) (by kernel_rfl) (by decide) (fun _ _ _ h => h) (by rfl) ?y13a trivial (fun _ => hS0) ?r13a;case y13a => (intro w hSw;(try dsimp only at hSw);go_simp;try with_reducible rfl)
 try simp only [Act.put]
 refine wpAnyX_takeD (i:=14) (v:=?v14a) 3 rfl (by kernel_rfl) (by kernel_rfl) (by kernel_rfl) (by kernel_rfl) (by kernel_rfl) (by kernel_rfl) (by decide) (fun _ _ _ h => h) (by rfl) ?y14a ⟨hS0,trivial⟩ ?r14a;case y14a => (intro w hSw;(try dsimp only at hSw);go_simp;try with_reducible rfl)
 try simp only [Act.put]
 refine wpAnyX_takeT (i:=15) (v:=?v15a) rfl (by kernel_rfl) (by kernel_rfl) (by kernel_rfl) (by decide) (fun _ _ _ h => h) (by rfl) ?y15a trivial (fun _ => hS0) ?r15a;case y15a => (intro w hSw;(try dsimp only at hSw);go_simp;try with_reducible rfl)
 try simp only [Act.put]
 refine wpAnyX_takeT (i:=16) (v:=?v16a) rfl (by kernel_rfl) (by kernel_rfl) (by kernel_rfl) (by decide) (fun _ _ _ h => h) (by rfl) ?y16a trivial (fun _ => hS0) ?r16a;case y16a => (intro w hSw;(try dsimp only at hSw);go_simp;try with_reducible rfl)
 try simp only [Act.put]
 refine wpAnyX_takeT (i:=17) (v:=?v17a) rfl (by kernel_rfl) (by kernel_rfl) (by kernel_rfl) (by decide) (fun _ _ _ h => h) (by rfl) ?y17a trivial (fun _ => hS0) ?r17a;case y17a => (intro w hSw;(try dsimp only at hSw);go_simp;try with_reducible rfl)
 try simp only [Act.put]
 refine wpAnyX_takeT (i:=18) (v:=?v18a) rfl (by kernel_rfl) (by kernel_rfl) (by kernel_rfl) (by decide) (fun _ _ _ h => h) (by rfl) ?y18a trivial (fun _ => hS0) ?r18a;case y18a => (intro w hSw;(try dsimp only at hSw);go_simp;try with_reducible rfl)
 try simp only [Act.put]
 refine wpAnyX_takeD (i:=19) (v:=?v19a) 3 rfl (by kernel_rfl) (by kernel_rfl) (by kernel_rfl) (by kernel_rfl) (by kernel_rfl) (by kernel_rfl) (by decide) (fun _ _ _ h => h) (by rfl) ?y19a ⟨hS0,trivial⟩ ?r19a;case y19a => (intro w hSw;(try dsimp only at hSw);go_simp;try with_reducible rfl)
 try simp only [Act.put]
 refine wpAnyX_takeT (i:=20) (v:=?v20a) rfl (by kernel_rfl) (by kernel_rfl) (by kernel_rfl) (by decide) (fun _ _ _ h => h) (by rfl) ?y20a trivial (fun _ => hS0) ?r20a;case y20a => (intro w hSw;(try dsimp only at hSw);go_simp;try with_reducible rfl)
 try simp only [Act.put]
 refine wpAnyX_takeT (i:=21) (v:=?v21a) rfl (by kernel_rfl) (by kernel_rfl) (by kernel_rfl) (by decide) (fun _ _ _ h => h) (by rfl) ?y21a trivial (fun _ => hS0) ?r21a;case y21a => (intro w hSw;(try dsimp only at hSw);go_simp;try with_reducible rfl)
 try simp only [Act.put]
 refine wpAnyX_takeT (i:=22) (v:=?v22a) rfl (by kernel_rfl) (by kernel_rfl) (by kernel_rfl) (by decide) (fun _ _ _ h => h) (by rfl) ?y22a trivial (fun _ => hS0) ?r22a;case y22a => (intro w hSw;(try dsimp only at hSw);go_simp;try with_reducible rfl)
 try simp only [Act.put]
 refine wpAnyX_one (i:=23) (by kernel_rfl) rfl (fun K hK => ?_);go_simp;refine hw.out.mono ?_;rintro q w1 ⟨rfl,hQ⟩;refine hK.out _ _ ⟨fun h => absurd h (by decide),trivial⟩ ?_;clear hK K;try simp only [Act.put,List.setIfInBounds_toArray,List.set_cons_zero,List.set_cons_succ]
 refine wpAnyX_takeT (i:=24) (v:=?v24a) rfl (by kernel_rfl) (by kernel_rfl) (by kernel_rfl) (by decide) (fun _ _ _ h => h) (by rfl) ?y24a trivial (fun h => absurd h (by decide)) ?r24a;case y24a => (intro w hSw;(try dsimp only at hSw);go_simp;try with_reducible rfl)
 try simp only [Act.put]
 refine wpAnyX_done (by kernel_rfl) ?_ _;refine NoPanic.normal ?_;replace hQ:=Lib.hid hQ;go_wp2_with fail;go_ret;exact ⟨rfl,hQ.out⟩
theorem putK_len (d:DskV) (at_:Nat) (fr:List UInt8) (k:Nat):(putK d at_ fr k).C.length = d.C.length + k:=by
 show (d.C ++ putC at_ fr k).length = _;rw [List.length_append,putC_len]
theorem recB_le {r:Rc} (hr:r.g≤1099511627777∧r.e≤1099511627776∧r.i≤1099511627776) (hd:r.d.length≤32000):(recB r).length≤32040:=by
 have:=recB_len (r:=r) ⟨by omega,by omega,by omega⟩ (by omega);omega
theorem LogOk.app {d d':DskV} {v:LogV} {b:List UInt8} (h:LogOk d v) (hn:d'.n = d.n) (hd:d.n≤1024) (hb:b.length≤32000) (hf:fitsB (usedR v.rs) (halfD d) (appR v b) = true):LogOk d' {v with rs:=v.rs ++ [appR v b]}:=by
 have hlen:=h.len;have hh:halfD d≤511:=by unfold halfD;omega
 have hff:=of_decide_eq_true hf;have hg:=h.g;have he:=h.e;have hn1:=h.n;refine ⟨?_,?_,h.g,h.e,?_,fun r hr => ?_⟩
 ·show usedR (v.rs ++ [appR v b])≤halfD d';rw [usedR_snoc];unfold halfD at hff ⊢;rw [hn];exact hff.1
 ·show 1≤(v.rs ++ [appR v b]).length;rw [List.length_append];omega
 ·refine h.r.snoc ?_ ⟨⟨hff.2,h.e,?_,?_⟩,?_⟩
  ·have hne:v.rs ≠ []:=fun e => by rw [e] at hn1;simp at hn1
   rcases List.eq_nil_or_concat v.rs with e | ⟨rs',l,e⟩
   ·exact absurd e hne
   ·rw [List.concat_eq_append] at e;have hl:=h.f l (by rw [e];simp);have hap:(appR v b).i = v.rs.length∧(appR v b).g = v.g∧(appR v b).e = v.e:=⟨rfl,rfl,rfl⟩
    rw [e] at hap ⊢;rw [folF_snoc];refine ⟨?_,?_,?_⟩
    ·rw [hap.1,List.length_append];rfl
    ·rw [hap.2.1];exact hl.1.symm
    ·rw [hap.2.2];exact hl.2
  ·show v.rs.length≤_;omega
  ·show b.length≤_;omega
  ·have:=recB_le (r:=appR v b) ⟨by show v.g≤_;omega,h.e,by show v.rs.length≤_;omega⟩ hb;omega
 ·rcases List.mem_append.1 hr with hr | hr
  ·exact h.f r hr
  ·rw [List.mem_singleton.1 hr];exact ⟨rfl,Nat.le_refl _⟩
set_option maxRecDepth 100000 in
set_option maxHeartbeats 1600000 in
theorem append_any {G:List Nat} {E:Nat→Addr} (W w:World) (hE:EAt G E W) (gW:Gr W w) (i4:0 ∈ G) (i5:1 ∈ G) (i3:5 ∈ G) (i6:2 ∈ G) {lb db:Nat} {M:DskM} {L:LogM} (hD:DskAt w db M) (hMW:∀ b ∈ M.own db,W.heap.size≤b) (h:LogAt W w lb db M.d L) (hC:M.m + M.d.C.length≤900000)
 (a:Option Addr) (c:Nat) (b:List UInt8) (hb:BytesAt w a b) (hc:a = none→c = 0) (hx:∀ x,a = some x→x.block < w.heap.size) (hxM:∀ x,a = some x→x.block ∉ M.own db) (h4:4≤M.d.n) :
 Calls Tryz.prog 82 #[.pointer (some ⟨lb,0,none⟩),.slice a b.length c] w fun q w' => ∃ M' L',q = .returned (eV E (appE M.d L.v b))∧LogP W db lb (appD M.d L.v b) (appL M.d L.v b) M M' L L' w w':=by
 have hn1:=hD.ok.n1;have hrl:=h.ok.len;have hu:=h.ok.u;have hg:=h.ok.g;have he:=h.ok.e;have hh:halfD M.d≤511:=by unfold halfD;omega
 have hh3:firstD M.d L.s + halfD M.d≤M.d.n:=by unfold firstD halfD;split <;> omega
 have hrs:L.v.rs.length = L.R.length:=L.rs_len;have hrk:L.R.length≤1000:=by omega
 have hus:usedR L.v.rs = usedR L.rs:=rfl;have gd:Gr w w.drew:=(Gr.refl _).drew;have hb1:=(h.b.gr gd)
 obtain ⟨Q,hQ⟩:∃ Q:World→Prop,Q = fun w' => ∃ M' L',LogP W db lb (appD M.d L.v b) (appL M.d L.v b) M M' L L' w w':=⟨_,rfl⟩
 have no:∀ w1,Gr w.drew w1→appE M.d L.v b ≠ 0→Q w1:=fun w1 g1 hne => by
  rw [hQ];refine ⟨M,L,?_⟩;unfold appD appL;rw [if_neg hne,if_neg hne];exact LogP.refl hD h (gd.trans g1)
 have key:Calls Tryz.prog 79 #[.pointer (some ⟨lb,1,none⟩),.pointer (some ⟨db,0,none⟩),.agg #[.int .i64 L.g,.int .i64 L.e,.int .i64 L.R.length,.slice a b.length c]] w.drew fun q w' => q = .returned (eV E (appE M.d L.v b))∧Q w':=by
  cases hl:M.d.lost with
  | true =>
   have hq:appE M.d L.v b = 9:=by unfold appE;rw [if_pos hl]
   have h2:=no;rw [hq] at h2 ⊢;exact (write_lost w.drew (hE.gr (gW.trans gd)) i4 (hD.gr gd) hl lb 1 L.g L.e L.R.length a b.length c).mono fun q w1 ⟨e1,g1⟩ => ⟨e1,h2 w1 g1 (by decide)⟩
  | false =>
   by_cases hlb:32000 < b.length
   ·have hq:appE M.d L.v b = 8:=by unfold appE;rw [hl,if_neg (by decide),if_pos hlb]
    have h2:=no;rw [hq] at h2 ⊢;exact (write_large w.drew (hE.gr (gW.trans gd)) i3 (hD.gr gd) hl lb 1 L.g L.e L.R.length a b.length c hlb).mono fun q w1 ⟨e1,g1⟩ => ⟨e1,h2 w1 g1 (by decide)⟩
   ·have hrv:rcV (appR L.v b) a c = .agg #[.int .i64 L.g,.int .i64 L.e,.int .i64 L.R.length,.slice a b.length c]:=by
     show Value.agg #[.int .i64 L.g,.int .i64 L.e,.int .i64 (L.v.rs.length:Nat),.slice a b.length c] = _;rw [hrs]
    rw [← hrv];cases hf:fitsB (usedR L.v.rs) (halfD M.d) (appR L.v b) with
    | false =>
     have hq:appE M.d L.v b = 7:=by unfold appE;rw [hl,if_neg (by decide),if_neg hlb,hf,if_neg (by decide)]
     have h2:=no;rw [hq] at h2 ⊢;exact (write_full w.drew (hE.gr (gW.trans gd)) i6 (hD.gr gd) hl lb 1 _ _ (halfD M.d) (usedR L.rs) hb1 rfl rfl (by omega) (by omega) (appR L.v b) a c ⟨by show L.g≤_;have:L.v.g = L.g:=rfl;omega,he,by show L.v.rs.length≤_;omega⟩ (hb.gr gd) hc (fun x e1 => hx x e1) (by show b.length≤_;omega) hf).mono fun q w1 ⟨e1,g1⟩ => ⟨e1,h2 w1 g1 (by decide)⟩
    | true =>
     have hq:appE M.d L.v b = 0:=by unfold appE;rw [hl,if_neg (by decide),if_neg hlb,hf,if_pos rfl]
     have hff:=of_decide_eq_true hf;rw [hus] at hff;rw [hq];refine (write_yes W w.drew hE (gW.trans gd) i4 i5 (hD.gr gd) hl (by omega) hMW lb 1 _ _ (firstD M.d L.s) (halfD M.d) (usedR L.rs) L.rc L.ra L.R hb1 rfl rfl rfl rfl (h.away hD lb (by simp [LogM.own])) (by decide) (by decide) (h.r.gr gd) hrk (appR L.v b) a c ⟨by show L.g≤_;have:L.v.g = L.g:=rfl;omega,he,by show L.v.rs.length≤_;omega⟩ (hb.gr gd) hc (fun x e1 => hx x e1) hxM (by show b.length≤_;omega) hff.1 hh3).mono ?_;rintro q w1 ⟨e1,⟨⟨M',ra',rc',a',c',x1,x2,x3,x4,x5,x6,x7⟩,x8⟩⟩;refine ⟨e1,?_⟩;rw [hQ];have hpn:M'.d.n = M.d.n:=by rw [x2];rfl
     have hcl:M'.d.C.length = M.d.C.length + costR (appR L.v b):=by rw [x2];exact putK_len _ _ _ _
     have hcl2:costR (appR L.v b)≤511:=by omega
     refine ⟨M',⟨L.s,L.g,L.e,L.R ++ [⟨appR L.v b,a',c'⟩],ra',rc'⟩,?_,?_,?_,x1,⟨?_,x5,h.lo,?_⟩,?_,?_⟩
     ·unfold appD;rw [if_pos hq,x2];rfl
     ·unfold appL;rw [if_pos hq];show (⟨L.s,L.g,L.e,(L.R ++ [(⟨appR L.v b,a',c'⟩:RcM)]).map (·.r)⟩:LogV) = ⟨L.s,L.g,L.e,L.R.map (·.r) ++ [appR L.v b]⟩
      rw [List.map_append];rfl
     ·omega
     ·have hu2:usedR (LogM.rs ⟨L.s,L.g,L.e,L.R ++ [⟨appR L.v b,a',c'⟩],ra',rc'⟩) = usedR L.rs + costR (appR L.v b):=by
       show usedR ((L.R ++ [(⟨appR L.v b,a',c'⟩:RcM)]).map (·.r)) = _;rw [List.map_append];exact usedR_snoc _ _
      have hl2:(L.R ++ [(⟨appR L.v b,a',c'⟩:RcM)]).length = L.R.length + 1:=by simp
      have hfd:firstD M'.d L.s = firstD M.d L.s:=by unfold firstD halfD;rw [hpn]
      have hhd:halfD M'.d = halfD M.d:=by unfold halfD;rw [hpn]
      show Blk w1 lb (logC db (firstD M'.d L.s) (halfD M'.d) (usedR (LogM.rs ⟨L.s,L.g,L.e,L.R ++ [⟨appR L.v b,a',c'⟩],ra',rc'⟩)) ra' (L.R ++ [(⟨appR L.v b,a',c'⟩:RcM)]).length rc' L.g L.e) _;rw [hu2,hl2,hfd,hhd];exact x4
     ·have:=h.ok.app hpn hn1 (by omega) hf;have hve:LogM.v ⟨L.s,L.g,L.e,L.R ++ [⟨appR L.v b,a',c'⟩],ra',rc'⟩ = {L.v with rs:=L.v.rs ++ [appR L.v b]}:=by
       show (⟨L.s,L.g,L.e,(L.R ++ [(⟨appR L.v b,a',c'⟩:RcM)]).map (·.r)⟩:LogV) = ⟨L.s,L.g,L.e,L.R.map (·.r) ++ [appR L.v b]⟩
       rw [List.map_append];rfl
      rw [hve];exact this
     ·refine (((gd.x _)).trans (x8.mono fun x hx => ?_));rcases List.mem_cons.1 hx with rfl | hx
      ·exact List.mem_append_right _ (by simp [LogM.own])
      rcases List.mem_append.1 hx with hx | hx
      ·exact List.mem_append_left _ hx
      ·exact List.mem_append_right _ (List.mem_cons_of_mem _ hx)
     ·intro y hy;rcases List.mem_append.1 hy with hy | hy
      ·exact (x6 y hy).imp (List.mem_append_left _) id
      rcases List.mem_cons.1 hy with rfl | hy
      ·exact .inl (List.mem_append_right _ (by simp [LogM.own]))
      ·cases hra:ra' with
       | none => rw [show (LogM.ra ⟨L.s,L.g,L.e,L.R ++ [⟨appR L.v b,a',c'⟩],ra',rc'⟩) = none from hra] at hy;cases hy
       | some q2 =>
        rw [show (LogM.ra ⟨L.s,L.g,L.e,L.R ++ [⟨appR L.v b,a',c'⟩],ra',rc'⟩) = some q2 from hra] at hy;rw [List.mem_singleton.1 (show y ∈ [q2.block] from hy)];rcases x7 q2 hra with ⟨q3,h3,h4⟩ | h3
        ·exact .inl (List.mem_append_right _ (by rw [h4];simp [LogM.own,h3]))
        ·exact .inr h3
 refine (append_call w h.b a b.length c key).mono ?_;rintro q w1 ⟨e1,hq⟩;rw [hQ] at hq;obtain ⟨M',L',hP⟩:=hq;exact ⟨M',L',e1,hP⟩
def chkR (v:LogV) (b:List UInt8):Rc:=⟨v.g + 1,v.e,0,b⟩
def chkE (d:DskV) (v:LogV) (b:List UInt8):Nat:=if d.lost = true then 9 else if 32000 < b.length then 8 else if fitsB 0 (halfD d) (chkR v b) = true then 0 else 7
def chkD (d:DskV) (v:LogV) (b:List UInt8):DskV:=if chkE d v b = 0 then (putD d (firstD d (!v.s)) (frR (chkR v b))).flush else d
def chkL (d:DskV) (v:LogV) (b:List UInt8):LogV:=if chkE d v b = 0 then ⟨!v.s,v.g + 1,v.e,[chkR v b]⟩ else v
theorem first_other (d:DskV) (s:Bool):(halfD d:Int) - firstD d s = firstD d (!s):=by
 unfold firstD;cases s
 ·simp
 ·simp
set_option maxRecDepth 100000 in
set_option maxHeartbeats 1600000 in
theorem chk_no (w:World) {lb db f n u k rc g e:Nat} {ra:Option Addr} (hb:Blk w lb (logC db f n u ra k rc g e) 164) (hfn:f≤n) (hn:n≤1000) (hg:g≤1099511627776) (a:Option Addr) (l c:Nat) (E:Nat→Addr) (k0:Nat)
 (hw:∀ w1 nb,Gr w w1→nb = w.heap.size→Blk w1 nb (arC (n - f) n 0 none 0 0) 158→Calls Tryz.prog 79 #[.pointer (some ⟨nb,0,none⟩),.pointer (some ⟨db,0,none⟩),.agg #[.int .i64 ((g:Int) + 1),.int .i64 e,.int .i64 0,.slice a l c]] w1 fun q w' => q = .returned (errAt E k0)∧Gr w1 w') :
 Calls Tryz.prog 84 #[.pointer (some ⟨lb,0,none⟩),.slice a l c] w fun q w' => q = .returned (errAt E k0)∧Gr w w':=by
 have c0:=hb.cell (i:=0) (v:=.pointer (some ⟨db,0,none⟩)) rfl;have c1:=hb.cell (i:=1) (v:=.int .i64 f) rfl;have c2:=hb.cell (i:=2) (v:=.int .i64 n) rfl;have c5:=hb.cell (i:=5) (v:=.int .i64 g) rfl;have c6:=hb.cell (i:=6) (v:=.int .i64 e) rfl;have z:=hb.lt;have q1:IntKind.i64.wrap ((n:Int) - f) = ((n - f:Nat):Int):=by rw [wraps_i64 _ (by omega) (by omega)];omega
 have q2:IntKind.i64.wrap ((g:Int) + 1) = (g:Int) + 1:=wraps_i64 _ (by omega) (by omega);have q3:(n:Int) - f = ((n - f:Nat):Int):=by omega
 obtain ⟨fo,hfo⟩:∃ fo,fo = n - f:=⟨_,rfl⟩
 rw [← hfo] at q1 q3 hw;obtain ⟨w1,hw1⟩:∃ w1,w1 = w.alloc (.cells #[.int .i64 fo,.int .i64 n,.int .i64 0,.slice none 0 0] 158):=⟨_,rfl⟩
 have g1:Gr w w1:=by rw [hw1];exact (Gr.refl w).alloc _
 obtain ⟨nb,hnb⟩:∃ nb,nb = w.heap.size:=⟨_,rfl⟩
 have hA:Blk w1 nb (arC fo n 0 none 0 0) 158:=by rw [hw1,hnb];exact Blk.new _ _ _
 have hb1:=hb.gr g1;have d0:=hb1.cell (i:=0) (v:=.pointer (some ⟨db,0,none⟩)) rfl;have d5:=hb1.cell (i:=5) (v:=.int .i64 g) rfl;have d6:=hb1.cell (i:=6) (v:=.int .i64 e) rfl;have z1:=hb1.lt;have hww:=hw w1.drew nb g1.drew hnb (hA.drew);replace hw:=Lib.hid hw;replace hww:=Lib.hid hww;replace hb:=Lib.hid hb;replace hb1:=Lib.hid hb1;replace hA:=Lib.hid hA;replace hw1:=Lib.hid hw1;replace hnb:=Lib.hid hnb;replace hfo:=Lib.hid hfo;go_enter Tryz.func84,Tryz.ntmps84;go_upto_region 3 with fail
 rw [← hw1.out,← hnb.out];go_region_held3 (fun w' => w'.cell? ⟨lb,0,none⟩ = some (.pointer (some ⟨db,0,none⟩))∧w'.cell? ⟨lb,5,none⟩ = some (.int .i64 g)∧w'.cell? ⟨lb,6,none⟩ = some (.int .i64 e)) (simp (maxDischargeDepth:=8) [go_sem, *])
  (first
   | (go_at_call 79;(with_reducible refine hww.out.mono ?_);rintro q w2 ⟨rfl,g2⟩;have hb2:=(hb1.out.drew).gr g2;have e0:=hb2.cell (i:=0) (v:=.pointer (some ⟨db,0,none⟩)) rfl;have e5:=hb2.cell (i:=5) (v:=.int .i64 g) rfl;have e6:=hb2.cell (i:=6) (v:=.int .i64 e) rfl;replace hb2:=Lib.hid hb2)
   | fail)
 have g3:=(g1.drew).trans g2;clear c0 c1 c2 c5 c6 d0 d5 d6;replace g3:=Lib.hid g3;go_wp2_with fail;go_ret;exact ⟨rfl,g3.out⟩
set_option maxRecDepth 100000 in
set_option maxHeartbeats 3200000 in
theorem chk_yes (w:World) {lb db f n u k rc g e:Nat} {ra:Option Addr} {M:DskM} (hD:DskAt w db M) (hb:Blk w lb (logC db f n u ra k rc g e) 164) (hfn:f≤n) (hn:n≤1000) (hg:g≤1099511627776) (hlM:lb ∉ M.own db) (a:Option Addr) (l c:Nat) (u2:Nat) (d1:DskV) (Q:DskM→Option Addr→Nat→World→Prop)
 (hw:∀ w1 nb,Gr w w1→nb = w.heap.size→Blk w1 nb (arC (n - f) n 0 none 0 0) 158→Calls Tryz.prog 79 #[.pointer (some ⟨nb,0,none⟩),.pointer (some ⟨db,0,none⟩),.agg #[.int .i64 ((g:Int) + 1),.int .i64 e,.int .i64 0,.slice a l c]] w1 fun q w' => q = .returned .nilIface∧∃ M' ra2 rc2,DskAt w' db M'∧M'.d = d1∧M'.m = M.m∧Blk w' nb (arC (n - f) n u2 ra2 1 rc2) 158∧GrX (nb :: M.own db) w1 w'∧(∀ b ∈ M'.own db,b ∈ M.own db ∨ w1.heap.size≤b)∧Q M' ra2 rc2 w')
 (hdl:d1.lost = false) (hdC:d1.C.length≤1000000) (hdm:M.m + d1.C.length≤1000000000) :
 Calls Tryz.prog 84 #[.pointer (some ⟨lb,0,none⟩),.slice a l c] w fun q w' => q = .returned .nilIface∧∃ M1 M' ra2 rc2 w1,Q M1 ra2 rc2 w1∧(∃ cs,Blk w1 lb cs 164)∧M1.d = d1∧DskAt w1 db M1∧DskAt w' db M'∧M'.d = d1.flush∧M'.m≤M.m + d1.C.length∧Blk w' lb (logC db (n - f) n u2 ra2 1 rc2 (g + 1) e) 164∧GrX (lb :: M1.own db) w1 w'∧GrX (lb :: M.own db) w w'∧(∀ b ∈ M1.own db,b ∈ M.own db ∨ w.heap.size≤b)∧∀ b ∈ M'.own db,b ∈ M.own db ∨ w.heap.size≤b:=by
 have c0:=hb.cell (i:=0) (v:=.pointer (some ⟨db,0,none⟩)) rfl;have c1:=hb.cell (i:=1) (v:=.int .i64 f) rfl;have c2:=hb.cell (i:=2) (v:=.int .i64 n) rfl;have c5:=hb.cell (i:=5) (v:=.int .i64 g) rfl;have c6:=hb.cell (i:=6) (v:=.int .i64 e) rfl;have z:=hb.lt;have hlo:=hD.lt;have q1:IntKind.i64.wrap ((n:Int) - f) = ((n - f:Nat):Int):=by rw [wraps_i64 _ (by omega) (by omega)];omega
 have q2:IntKind.i64.wrap ((g:Int) + 1) = (g:Int) + 1:=wraps_i64 _ (by omega) (by omega);have q3:(n:Int) - f = ((n - f:Nat):Int):=by omega
 obtain ⟨fo,hfo⟩:∃ fo,fo = n - f:=⟨_,rfl⟩
 rw [← hfo] at q1 q3 hw ⊢;obtain ⟨w1,hw1⟩:∃ w1,w1 = w.alloc (.cells #[.int .i64 fo,.int .i64 n,.int .i64 0,.slice none 0 0] 158):=⟨_,rfl⟩
 have g1:Gr w w1:=by rw [hw1];exact (Gr.refl w).alloc _
 obtain ⟨nb,hnb⟩:∃ nb,nb = w.heap.size:=⟨_,rfl⟩
 have hA:Blk w1 nb (arC fo n 0 none 0 0) 158:=by rw [hw1,hnb];exact Blk.new _ _ _
 have hb1:=hb.gr g1;have d0:=hb1.cell (i:=0) (v:=.pointer (some ⟨db,0,none⟩)) rfl;have d5:=hb1.cell (i:=5) (v:=.int .i64 g) rfl;have d6:=hb1.cell (i:=6) (v:=.int .i64 e) rfl;have z1:=hb1.lt;have hww:=hw w1.drew nb g1.drew hnb (hA.drew);have hln:lb ≠ nb:=by omega
 have hls:lb ∉ nb :: M.own db:=fun hm => by
  rcases List.mem_cons.1 hm with h1 | h1
  ·exact hln h1
  ·exact hlM h1
 have hnM:nb ∉ M.own db:=fun hm => by have:=hlo nb hm;omega
 replace hw:=Lib.hid hw;replace hww:=Lib.hid hww;replace hb:=Lib.hid hb;replace hb1:=Lib.hid hb1;replace hA:=Lib.hid hA;replace hw1:=Lib.hid hw1;replace hnb:=Lib.hid hnb;replace hfo:=Lib.hid hfo;replace hls:=Lib.hid hls;replace hlM:=Lib.hid hlM;replace hnM:=Lib.hid hnM;replace hlo:=Lib.hid hlo;replace hD:=Lib.hid hD;replace hdl:=Lib.hid hdl;go_enter Tryz.func84,Tryz.ntmps84;go_upto_region 3 with fail
 rw [← hw1.out,← hnb.out];go_region_held3 (fun w' => w'.cell? ⟨lb,0,none⟩ = some (.pointer (some ⟨db,0,none⟩))∧w'.cell? ⟨lb,5,none⟩ = some (.int .i64 g)∧w'.cell? ⟨lb,6,none⟩ = some (.int .i64 e)) (simp (maxDischargeDepth:=8) [go_sem, *])
  (first
   | (go_at_call 79;(with_reducible refine hww.out.mono ?_);rintro q w2 ⟨rfl,M1,ra2,rc2,x1,x2,x3,x4,x5,x6,x7⟩;have hb2:=(hb1.out.drew).grx x5 hls.out;have e0:=hb2.cell (i:=0) (v:=.pointer (some ⟨db,0,none⟩)) rfl;have e5:=hb2.cell (i:=5) (v:=.int .i64 g) rfl;have e6:=hb2.cell (i:=6) (v:=.int .i64 e) rfl;have z2:=hb2.lt;replace hb2:=Lib.hid hb2;replace x1:=Lib.hid x1;replace x2:=Lib.hid x2;replace x4:=Lib.hid x4;replace x5:=Lib.hid x5;replace x6:=Lib.hid x6;replace x7:=Lib.hid x7)
   | fail)
 have gd:Gr w w1.drew:=g1.drew;have hfl:=dflush_any w2 x1.out (by rw [x2.out];exact hdl.out) (by rw [x2.out];exact hdC) (by rw [x2.out];omega);rw [x2.out] at hfl;have hown1:∀ b ∈ M1.own db,b ∈ M.own db ∨ w.heap.size≤b:=fun b hb => (x6.out b hb).imp id (fun h1 => Nat.le_trans gd.size h1)
 have hlb2:lb ∉ M1.own db:=fun hm => by
  rcases hown1 lb hm with h1 | h1
  ·exact hlM.out h1
  ·omega
 have hnb2:nb ∉ M1.own db:=fun hm => by
  rcases x6.out nb hm with h1 | h1
  ·exact hnM.out h1
  ·have h2:=hA.out.lt;have h3:w1.heap.size≤w1.drew.heap.size:=Nat.le_refl _;omega
 clear c0 c1 c2 c5 c6 d0 d5 d6;replace hfl:=Lib.hid hfl;replace hown1:=Lib.hid hown1;go_wp2_with fail;refine hfl.out.mono ?_;rintro q w3 ⟨M2,rfl,hP,hm2⟩;have hb3:=hb2.out.grx hP.2.2.1 hlb2;have hA3:=x4.out.grx hP.2.2.1 hnb2;have f1:=hb3.free 1;have f2:=hb3.free 2;have f3:=hb3.free 3;have f4:=hb3.free 4;have f5:=hb3.free 5;have k1:=hb3.cell (i:=1) (v:=.int .i64 f) rfl;have k2:=hb3.cell (i:=2) (v:=.int .i64 n) rfl;have k3:=hb3.cell (i:=3) (v:=.int .i64 u) rfl;have k4:=hb3.cell (i:=4) (v:=.slice ra k rc) rfl;have k5:=hb3.cell (i:=5) (v:=.int .i64 g) rfl;have zb:=hb3.lt;have a0:=hA3.cell (i:=0) (v:=.int .i64 fo) rfl;have a1:=hA3.cell (i:=1) (v:=.int .i64 n) rfl;have a2:=hA3.cell (i:=2) (v:=.int .i64 u2) rfl;have a3:=hA3.cell (i:=3) (v:=.slice ra2 1 rc2) rfl;have za:=hA3.lt;obtain ⟨w4,hw4⟩:∃ w4,w4 = ((((w3.setCell ⟨lb,1,none⟩ (.int .i64 fo)).setCell ⟨lb,2,none⟩ (.int .i64 n)).setCell ⟨lb,3,none⟩ (.int .i64 u2)).setCell ⟨lb,4,none⟩ (.slice ra2 1 rc2)).setCell ⟨lb,5,none⟩ (.int .i64 ((g:Int) + 1)):=⟨_,rfl⟩
 have hb4:Blk w4 lb (logC db fo n u2 ra2 1 rc2 (g + 1) e) 164:=by
  rw [hw4];exact ((((hb3.set 1 (.int .i64 fo)).set 2 (.int .i64 n)).set 3 (.int .i64 u2)).set 4 (.slice ra2 1 rc2)).set 5 (.int .i64 ((g:Int) + 1))
 have gx4:GrX [lb] w3 w4:=by rw [hw4];exact (((((GrX.refl _ _).set (p:=⟨lb,1,none⟩) (.inl (by simp)) _).set (p:=⟨lb,2,none⟩) (.inl (by simp)) _).set (p:=⟨lb,3,none⟩) (.inl (by simp)) _).set (p:=⟨lb,4,none⟩) (.inl (by simp)) _).set (p:=⟨lb,5,none⟩) (.inl (by simp)) _
 have hlb3:lb ∉ M2.own db:=fun hm => by
  rcases hP.2.2.2 lb hm with h1 | h1
  ·exact hlb2 h1
  ·omega
 replace hb3:=Lib.hid hb3;replace hA3:=Lib.hid hA3;replace hP:=Lib.hid hP;replace hb4:=Lib.hid hb4;replace gx4:=Lib.hid gx4;replace hw4:=Lib.hid hw4;go_upto_region 11 with fail
 rw [← hw4.out];go_wp2_with fail;go_ret;refine ⟨rfl,M1,M2,ra2,rc2,w2,x7.out,⟨_,hb2.out⟩,x2.out,x1.out,hP.out.2.1.grx gx4.out (fun b hb hm => hlb3 (by rw [← List.mem_singleton.1 hm];exact hb)),hP.out.1,by omega,hb4.out,?_,?_,hown1.out,fun b hb => ?_⟩
 ·exact (hP.out.2.2.1.mono (fun x hx => List.mem_cons_of_mem _ hx)).trans (gx4.out.mono (fun x hx => by rw [List.mem_singleton.1 hx];exact List.mem_cons_self))
 ·have h1:GrX (lb :: M.own db) w w2:=(gd.x _).join x5.out (fun x hx => by
   rcases List.mem_cons.1 hx with rfl | hx
   ·exact .inr (by have:=hnb.out;omega)
   ·exact .inl (List.mem_cons_of_mem _ hx))
  refine (h1.join hP.out.2.2.1 (fun x hx => (hown1.out x hx).imp (List.mem_cons_of_mem _) id)).join gx4.out (fun x hx => .inl (by rw [List.mem_singleton.1 hx];exact List.mem_cons_self))
 ·rcases hP.out.2.2.2 b hb with h1 | h1
  ·exact hown1.out b h1
  ·exact .inr (by have:=x5.out.size;have:=gd.size;omega)
theorem usedR_one (r:Rc):usedR [r] = costR r:=by unfold usedR;simp
theorem LogOk.chk {d d':DskV} {v:LogV} {b:List UInt8} (h:LogOk d v) (hn:d'.n = d.n) (hb:b.length≤32000) (hf:fitsB 0 (halfD d) (chkR v b) = true):LogOk d' ⟨!v.s,v.g + 1,v.e,[chkR v b]⟩:=by
 have hff:=of_decide_eq_true hf;have hg:(chkR v b).g = v.g + 1:=rfl;have he:=h.e;refine ⟨?_,Nat.le_refl _,?_,he,?_,fun r hr => ?_⟩
 ·show usedR [chkR v b]≤halfD d';rw [usedR_one];unfold halfD at hff ⊢;rw [hn];omega
 ·show v.g + 1≤_;omega
 ·refine RcsOk.nil.snoc (r:=chkR v b) ((folF_nil _).2 ⟨rfl,by omega⟩) ⟨⟨hff.2,he,Nat.zero_le _,?_⟩,?_⟩
  ·show b.length≤_;omega
  ·have:=recB_le (r:=chkR v b) ⟨by omega,he,by show 0≤_;omega⟩ hb;omega
 ·rw [List.mem_singleton.1 hr];exact ⟨rfl,Nat.le_refl _⟩
set_option maxRecDepth 100000 in
set_option maxHeartbeats 1600000 in
theorem checkpoint_any {G:List Nat} {E:Nat→Addr} (W w:World) (hE:EAt G E W) (gW:Gr W w) (i4:0 ∈ G) (i5:1 ∈ G) (i3:5 ∈ G) (i6:2 ∈ G) {lb db:Nat} {M:DskM} {L:LogM} (hD:DskAt w db M) (hMW:∀ b ∈ M.own db,W.heap.size≤b) (h:LogAt W w lb db M.d L) (hC:M.m + M.d.C.length≤900000)
 (a:Option Addr) (c:Nat) (b:List UInt8) (hb:BytesAt w a b) (hc:a = none→c = 0) (hx:∀ x,a = some x→x.block < w.heap.size) (hxM:∀ x,a = some x→x.block ∉ M.own db) (h4:4≤M.d.n) :
 Calls Tryz.prog 84 #[.pointer (some ⟨lb,0,none⟩),.slice a b.length c] w fun q w' => ∃ M' L',q = .returned (eV E (chkE M.d L.v b))∧LogP W db lb (chkD M.d L.v b) (chkL M.d L.v b) M M' L L' w w':=by
 have hn1:=hD.ok.n1;have hg:L.g≤1099511627776:=h.ok.g;have he:L.e≤1099511627776:=h.ok.e;have hh:halfD M.d≤511:=by unfold halfD;omega
 have hfh:firstD M.d L.s≤halfD M.d:=by unfold firstD;split <;> omega
 have hfo:halfD M.d - firstD M.d L.s = firstD M.d (!L.s):=by have:=first_other M.d L.s;omega
 have hh3:firstD M.d (!L.s) + halfD M.d≤M.d.n:=by unfold firstD halfD;split <;> omega
 have no:∀ w1,Gr w w1→chkE M.d L.v b ≠ 0→∃ M' L',LogP W db lb (chkD M.d L.v b) (chkL M.d L.v b) M M' L L' w w1:=fun w1 g1 hne => by
  refine ⟨M,L,?_⟩;unfold chkD chkL;rw [if_neg hne,if_neg hne];exact LogP.refl hD h g1
 have hrv:rcV (chkR L.v b) a c = .agg #[.int .i64 ((L.g:Int) + 1),.int .i64 L.e,.int .i64 0,.slice a b.length c]:=rfl;cases hl:M.d.lost with
 | true =>
  have hq:chkE M.d L.v b = 9:=by unfold chkE;rw [if_pos hl]
  rw [hq] at no ⊢;refine (chk_no w h.b hfh (by omega) hg a b.length c E 0 (fun w1 nb g1 _ _ => write_lost w1 (hE.gr (gW.trans g1)) i4 (hD.gr g1) hl nb 0 _ _ 0 a b.length c)).mono fun q w1 ⟨e1,g1⟩ => ?_
  obtain ⟨M',L',hP⟩:=no w1 g1 (by decide);exact ⟨M',L',e1,hP⟩
 | false =>
  by_cases hlb:32000 < b.length
  ·have hq:chkE M.d L.v b = 8:=by unfold chkE;rw [hl,if_neg (by decide),if_pos hlb]
   rw [hq] at no ⊢;refine (chk_no w h.b hfh (by omega) hg a b.length c E 5 (fun w1 nb g1 _ _ => write_large w1 (hE.gr (gW.trans g1)) i3 (hD.gr g1) hl nb 0 _ _ 0 a b.length c hlb)).mono fun q w1 ⟨e1,g1⟩ => ?_
   obtain ⟨M',L',hP⟩:=no w1 g1 (by decide);exact ⟨M',L',e1,hP⟩
  ·cases hf:fitsB 0 (halfD M.d) (chkR L.v b) with
   | false =>
    have hq:chkE M.d L.v b = 7:=by unfold chkE;rw [hl,if_neg (by decide),if_neg hlb,hf,if_neg (by decide)]
    rw [hq] at no ⊢;refine (chk_no w h.b hfh (by omega) hg a b.length c E 2 (fun w1 nb g1 _ hA => by
     rw [← hrv];exact write_full w1 (hE.gr (gW.trans g1)) i6 (hD.gr g1) hl nb 0 _ _ (halfD M.d) 0 hA rfl rfl (by omega) (by omega) (chkR L.v b) a c ⟨by show L.g + 1≤_;omega,he,by show 0≤_;omega⟩ (hb.gr g1) hc (fun x e1 => Nat.lt_of_lt_of_le (hx x e1) g1.size) (by show b.length≤_;omega) hf)).mono fun q w1 ⟨e1,g1⟩ => ?_
    obtain ⟨M',L',hP⟩:=no w1 g1 (by decide);exact ⟨M',L',e1,hP⟩
   | true =>
    have hq:chkE M.d L.v b = 0:=by unfold chkE;rw [hl,if_neg (by decide),if_neg hlb,hf,if_pos rfl]
    have hff:=of_decide_eq_true hf;have hcl2:costR (chkR L.v b)≤511:=by omega
    have hd1:(putD M.d (firstD M.d (!L.s)) (frR (chkR L.v b))).C.length = M.d.C.length + costR (chkR L.v b):=putK_len _ _ _ _;rw [hq];refine (chk_yes w hD h.b hfh (by omega) hg (h.away hD lb (by simp [LogM.own])) a b.length c (0 + costR (chkR L.v b)) (putD M.d (firstD M.d (!L.s)) (frR (chkR L.v b)))
     (fun M1 ra2 rc2 w1 => ∃ a' c',RowAt W w1 ra2 rc2 [⟨chkR L.v b,a',c'⟩]∧∀ x,ra2 = some x→w.heap.size≤x.block)
     (fun w1 nb g1 hnb hA => ?_) hl (by omega) (by omega)).mono ?_
    ·rw [← hrv];have hnM:nb ∉ M.own db:=fun hm => by have:=hD.lt nb hm;omega
     refine (write_yes W w1 hE (gW.trans g1) i4 i5 (hD.gr g1) hl (by omega) hMW nb 0 _ _ (halfD M.d - firstD M.d L.s) (halfD M.d) 0 0 none [] hA rfl rfl rfl rfl hnM (by decide) (by decide) (RowAt.nil _ _) (by simp) (chkR L.v b) a c ⟨hff.2,he,by show 0≤_;omega⟩ (hb.gr g1) hc (fun x e1 => Nat.lt_of_lt_of_le (hx x e1) g1.size) hxM (by show b.length≤_;omega) (by omega) (by rw [hfo];exact hh3)).mono ?_;rintro q w2 ⟨e1,⟨⟨M',ra',rc',a',c',x1,x2,x3,x4,x5,x6,x7⟩,x8⟩⟩;refine ⟨e1,M',ra',rc',x1,?_,x3,x4,x8.mono (fun x hx => ?_),x6,a',c',x5,fun x hx => ?_⟩
     ·rw [x2,hfo,Nat.add_zero]
     ·simpa using hx
     ·rcases x7 x hx with ⟨q3,h3,-⟩ | h3
      ·cases h3
      ·exact Nat.le_trans g1.size h3
    ·rintro q w' ⟨e1,M1,M',ra2,rc2,w1,⟨a',c',hR,hra⟩,⟨cs,hlB⟩,hM1,hD1,hD',hM',hm,hB',gx1,gx,ho1,ho'⟩;have hlw:=h.b.lt;have hlM1:=blk_apart hlB hD1 (by decide) (by decide);have hR':RowAt W w' ra2 rc2 [⟨chkR L.v b,a',c'⟩]:=hR.grx gx1 (fun x hx hm2 => by
      rcases List.mem_cons.1 hm2 with h1 | h1
      ·have:=hra x hx;omega
      ·exact own_apart hR.o hD1 (by decide) (by decide) x.block (own_blk hx) h1) (fun x hx y hy hm2 => by
      rcases List.mem_cons.1 hm2 with h1 | h1
      ·exact owns_blk (hR.d x hx).1 hlB (by decide) (by rw [hy];show some y.block = some lb;rw [h1])
      ·exact own_apart (hR.d x hx).1 hD1 (by decide) (by decide) y.block (own_blk hy) h1)
     have hpn:M'.d.n = M.d.n:=by rw [hM'];rfl
     have hCl:M'.d.C.length = 0:=by rw [hM'];rfl
     refine ⟨M',⟨!L.s,L.g + 1,L.e,[⟨chkR L.v b,a',c'⟩],ra2,rc2⟩,e1,⟨?_,?_,by omega,hD',⟨?_,hR',h.lo,?_⟩,?_,?_⟩⟩
     ·unfold chkD;rw [if_pos hq,hM'];rfl
     ·unfold chkL;rw [if_pos hq];rfl
     ·have hu2:usedR (LogM.rs ⟨!L.s,L.g + 1,L.e,[⟨chkR L.v b,a',c'⟩],ra2,rc2⟩) = 0 + costR (chkR L.v b):=by
       rw [Nat.zero_add];exact usedR_one _
      have hfd:firstD M'.d (!L.s) = halfD M.d - firstD M.d L.s:=by rw [hfo];unfold firstD halfD;rw [hpn]
      have hhd:halfD M'.d = halfD M.d:=by unfold halfD;rw [hpn]
      show Blk w' lb (logC db (firstD M'.d (!L.s)) (halfD M'.d) (usedR (LogM.rs ⟨!L.s,L.g + 1,L.e,[⟨chkR L.v b,a',c'⟩],ra2,rc2⟩)) ra2 1 rc2 (L.g + 1) L.e) _;rw [hu2,hfd,hhd];exact hB'
     ·exact h.ok.chk hpn (by omega) hf
     ·exact gx.mono (fun x hx => by
       rcases List.mem_cons.1 hx with rfl | hx
       ·exact List.mem_append_right _ (by simp [LogM.own])
       ·exact List.mem_append_left _ hx)
     ·intro y hy;rcases List.mem_append.1 hy with hy | hy
      ·exact (ho' y hy).imp (List.mem_append_left _) id
      rcases List.mem_cons.1 hy with rfl | hy
      ·exact .inl (List.mem_append_right _ (by simp [LogM.own]))
      ·cases hra2:ra2 with
       | none => rw [show (LogM.ra ⟨!L.s,L.g + 1,L.e,[⟨chkR L.v b,a',c'⟩],ra2,rc2⟩) = none from hra2] at hy;cases hy
       | some q2 =>
        rw [show (LogM.ra ⟨!L.s,L.g + 1,L.e,[⟨chkR L.v b,a',c'⟩],ra2,rc2⟩) = some q2 from hra2] at hy;rw [List.mem_singleton.1 (show y ∈ [q2.block] from hy)];exact .inr (hra q2 hra2)
theorem area_ok {d:DskV} (h:d.ok) (f n:Nat):RcsOk (areaF (secL d f n))∧usedR (areaF (secL d f n))≤n:=by
 have:=scanF_ok ((secL d f n).length + 1) (L:=secL d f n) (rs:=[]) (secL_64 h f n) RcsOk.nil (Nat.zero_le _);rw [secL_len] at this;unfold areaF;rw [secL_len];exact this
theorem newR_ok {d:DskV} (h:d.ok):RcsOk (newR d)∧usedR (newR d)≤halfD d:=by
 unfold newR;split
 ·exact area_ok h _ _
 ·exact area_ok h _ _
theorem lastE_le {rs:List Rc} (h:RcsOk rs):lastE rs≤1099511627776:=by
 rcases List.eq_nil_or_concat rs with rfl | ⟨r,l,e⟩
 ·exact Nat.zero_le _
 ·rw [List.concat_eq_append] at e;subst e;rw [lastE_snoc];exact (h.o l (by simp)).1.e
theorem numF_le {rs:List Rc} (h:RcsOk rs):numF rs≤1099511627776:=by
 cases rs with
 | nil => exact Nat.zero_le _
 | cons r t => exact (h.o r (by simp)).1.g
def fmtS (d:DskV):Bool:=if numF (newR d) = 0 then secondD d else !secondD d
def fmtT (d:DskV):Nat:=topF d (newR d)
def fmtR (d:DskV) (b:List UInt8):Rc:=⟨numF (newR d) + 1,fmtT d + 1,0,b⟩
def fmtL (d:DskV) (b:List UInt8):LogV:=⟨fmtS d,numF (newR d) + 1,fmtT d + 1,[fmtR d b]⟩
structure FmtP (W:World) (E:Nat→Addr) (db:Nat) (b:List UInt8) (M:DskM) (w:World) (q:Ending) (w':World):Prop where
 x:∃ (lb:Nat) (M':DskM) (L':LogM),q = .returned (.tuple #[.pointer (some ⟨lb,0,none⟩),.nilIface])∧M'.d = (putD (claimD M.d (fmtT M.d + 1)) (firstD M.d (fmtS M.d)) (frR (fmtR M.d b))).flush∧L'.v = fmtL M.d b∧M'.m + M'.d.C.length≤M.m + M.d.C.length + 600∧DskAt w' db M'∧LogAt W w' lb db M'.d L'∧(∀ y ∈ M'.own db,y ∈ M.own db ∨ w.heap.size≤y)∧∀ y ∈ L'.own lb,w.heap.size≤y
 g:GrX (M.own db) w w'
set_option maxRecDepth 100000 in
set_option maxHeartbeats 3200000 in
theorem format_yes_z {G:List Nat} {E:Nat→Addr} (W w:World) (hE:EAt G E W) (gW:Gr W w) (i4:0 ∈ G) (i5:1 ∈ G) (i1:3 ∈ G) (i2:9 ∈ G) (i3:5 ∈ G) (i6:2 ∈ G) {db:Nat} {M:DskM} (hD:DskAt w db M) (hl:M.d.lost = false) (hC:M.m + M.d.C.length≤800000) (h4:4≤M.d.n) (hz:numF (newR M.d) = 0) (hMW:∀ b ∈ M.own db,W.heap.size≤b) (a:Option Addr) (c:Nat) (b:List UInt8) (hb:BytesAt w a b) (hc:a = none→c = 0) (hx:∀ x,a = some x→x.block < w.heap.size) (hlb:b.length≤32000) (hxM:∀ x,a = some x→x.block ∉ M.own db) (ht:fmtT M.d < 1099511627776) (hfit:fitsB 0 (halfD M.d) (fmtR M.d b) = true) :
 Calls Tryz.prog 35 #[.pointer (some ⟨db,0,none⟩),.slice a b.length c] w (FmtP W E db b M w):=by
 have hn1:=hD.ok.n1;have hlt:=hD.lt;obtain ⟨hok,huo⟩:=newR_ok hD.ok;have hlE:=lastE_le hok;have hgN:=numF_le hok;have hbo:=both_yes w (hE.gr gW) i4 i5 i1 i2 i3 hD hl (by omega) h4;have hHe:halfD M.d≤511:=by unfold halfD;omega
 have hrl0:=usedR_ge (newR M.d);obtain ⟨f1,hf1⟩:∃ f1,f1 = firstD M.d (secondD M.d):=⟨_,rfl⟩
 obtain ⟨f2,hf2⟩:∃ f2,f2 = firstD M.d (!secondD M.d):=⟨_,rfl⟩
 obtain ⟨H,hH⟩:∃ H,H = halfD M.d:=⟨_,rfl⟩
 obtain ⟨N,hN⟩:∃ N,N = newR M.d:=⟨_,rfl⟩
 obtain ⟨u1,hu1⟩:∃ u1,u1 = usedR N:=⟨_,rfl⟩
 obtain ⟨m,hm⟩:∃ m,m = numF N:=⟨_,rfl⟩
 unfold BothP at hbo;rw [← hf1,← hf2,← hH,← hN,← hu1] at hbo;rw [← hN] at hz hlE hgN hrl0 huo;rw [← hH] at hHe huo;rw [← hm] at hz hgN;rw [← hu1] at hrl0 huo;replace hbo:=Lib.hid hbo;replace hf1:=Lib.hid hf1;replace hf2:=Lib.hid hf2;replace hH:=Lib.hid hH;replace hN:=Lib.hid hN;replace hm:=Lib.hid hm;replace hlE:=Lib.hid hlE;replace hok:=Lib.hid hok;replace hD:=Lib.hid hD;replace hE:=Lib.hid hE;replace hl:=Lib.hid hl;replace hlt:=Lib.hid hlt;have hmb:((m:Int) == 0) = true:=by simp [hz]
 have hm0:m = 0:=hz;replace hz:=Lib.hid hz;replace hu1:=Lib.hid hu1;subst hm0;clear hmb;go_enter Tryz.func35,Tryz.ntmps35;go_wp2_with fail;refine hbo.out.mono ?_;rintro q w1 ⟨g1,R,ra,rc,ra2,k2,rc2,u2,hRn,rfl,hR⟩;obtain ⟨k,hk⟩:∃ k,k = R.length:=⟨_,rfl⟩
 have hRl:R.length≤1000:=by
  have:N.length = R.length:=by rw [← hRn,List.length_map]
  omega
 have hem:=fun w' => empty_any w' f2 H u2 ra2 k2 rc2
 have hem1:=fun w' => empty_any w' f1 H u1 ra k rc
 rw [← hk];obtain ⟨w2,hw2⟩:∃ w2,w2 = (w1.alloc (.cells #[.int .i64 f1,.int .i64 H,.int .i64 u1,.slice ra k rc] 158)).alloc (.cells #[.int .i64 f2,.int .i64 H,.int .i64 u2,.slice ra2 k2 rc2] 158):=⟨_,rfl⟩
 have g12:Gr w1 w2:=by rw [hw2];exact ((Gr.refl _).alloc _).alloc _
 obtain ⟨n6,hn6⟩:∃ n6,n6 = w1.heap.size:=⟨_,rfl⟩
 obtain ⟨n7,hn7⟩:∃ n7,n7 = w1.heap.size + 1:=⟨_,rfl⟩
 have hA2:Blk w2 n6 #[.int .i64 f1,.int .i64 H,.int .i64 u1,.slice ra k rc] 158:=by rw [hw2,hn6];exact (Blk.new _ _ _).alloc _
 have hB2:Blk w2 n7 #[.int .i64 f2,.int .i64 H,.int .i64 u2,.slice ra2 k2 rc2] 158:=by rw [hw2,hn7];exact Blk.new1 (by simp)
 have b0:=hB2.cell (i:=0) (v:=.int .i64 f2) rfl;have b1:=hB2.cell (i:=1) (v:=.int .i64 H) rfl;have b2:=hB2.cell (i:=2) (v:=.int .i64 u2) rfl;have b3:=hB2.cell (i:=3) (v:=.slice ra2 k2 rc2) rfl;have zB:=hB2.lt;have hs1:=g1.size;replace hem:=Lib.hid hem;replace hem1:=Lib.hid hem1;replace hA2:=Lib.hid hA2;replace hB2:=Lib.hid hB2;replace hw2:=Lib.hid hw2;replace hn6:=Lib.hid hn6;replace hn7:=Lib.hid hn7;replace hRn:=Lib.hid hRn;replace hR:=Lib.hid hR;replace hk:=Lib.hid hk;go_upto_region 2 with fail
 rw [← hw2.out,← hn7.out,← hn6.out];go_wp2_with fail;refine (hem.out w2).mono ?_;rintro q w3 ⟨rfl,g23⟩;obtain ⟨w4,hw4⟩:∃ w4,w4 = w3.alloc (.cells #[.int .i64 f2,.int .i64 H,.int .i64 0,.slice none 0 0] 158):=⟨_,rfl⟩
 have g34:Gr w3 w4:=by rw [hw4];exact (Gr.refl _).alloc _
 obtain ⟨n9,hn9⟩:∃ n9,n9 = w3.heap.size:=⟨_,rfl⟩
 have hT4:Blk w4 n9 #[.int .i64 f2,.int .i64 H,.int .i64 0,.slice none 0 0] 158:=by rw [hw4,hn9];exact Blk.new _ _ _
 have g24:=g23.trans g34;have hA4:=hA2.out.gr g24;have hR4:=hR.out.gr (g12.trans g24);have hnu:Calls Tryz.prog 75 #[.pointer (some ⟨n6,0,none⟩)] w4 fun e w' => e = .returned (.int .i64 (0:Int))∧w' = w4:=by
  have:=number_area w w4 n6 f1 H u1 ra rc R (by rw [← hk.out];exact hA4) hR4;rw [hRn.out,← hm.out] at this;exact this
 have h69:n6 < n9:=by have:=hA2.out.lt;have:=g23.size;have:=hn9;omega
 replace hT4:=Lib.hid hT4;replace hA4:=Lib.hid hA4;replace hR4:=Lib.hid hR4;replace hnu:=Lib.hid hnu;replace hw4:=Lib.hid hw4;replace hn9:=Lib.hid hn9;clear b0 b1 b2 b3 zB;go_upto_region 5 with fail
 rw [← hw4.out,← hn9.out];go_wp2_with fail;refine hnu.out.mono ?_;rintro q w5 ⟨rfl,hw5⟩;subst w5;have a0:=hA4.out.cell (i:=0) (v:=.int .i64 f1) rfl;have a1:=hA4.out.cell (i:=1) (v:=.int .i64 H) rfl;have a2:=hA4.out.cell (i:=2) (v:=.int .i64 u1) rfl;have a3:=hA4.out.cell (i:=3) (v:=.slice ra k rc) rfl;have zA:=hA4.out.lt;go_wp2_with fail;refine (hem1.out w4).mono ?_;rintro q w5 ⟨rfl,g45⟩;have hT5:=hT4.out.gr g45;have fT0:=hT5.free 0;have fT1:=hT5.free 1;have fT2:=hT5.free 2;have fT3:=hT5.free 3;have cT0:=hT5.cell (i:=0) (v:=.int .i64 f2) rfl;have cT1:=hT5.cell (i:=1) (v:=.int .i64 H) rfl;have cT2:=hT5.cell (i:=2) (v:=.int .i64 0) rfl;have cT3:=hT5.cell (i:=3) (v:=.slice none 0 0) rfl;have zT:=hT5.lt;obtain ⟨w6,hw6⟩:∃ w6,w6 = (((w5.setCell ⟨n9,0,none⟩ (.int .i64 f1)).setCell ⟨n9,1,none⟩ (.int .i64 H)).setCell ⟨n9,2,none⟩ (.int .i64 0)).setCell ⟨n9,3,none⟩ (.slice none 0 0):=⟨_,rfl⟩
 have hT6:Blk w6 n9 #[.int .i64 f1,.int .i64 H,.int .i64 0,.slice none 0 0] 158:=by rw [hw6];exact hT5.set4 rfl _ _ _ _
 have gx6:GrX [n9] w5 w6:=by rw [hw6];exact ((((GrX.refl _ _).set (p:=⟨n9,0,none⟩) (.inl (by simp)) _).set (p:=⟨n9,1,none⟩) (.inl (by simp)) _).set (p:=⟨n9,2,none⟩) (.inl (by simp)) _).set (p:=⟨n9,3,none⟩) (.inl (by simp)) _
 have g02:Gr w w2:=g1.trans g12;have g05:Gr w w5:=(g02.trans g24).trans g45;have hw9:w.heap.size≤n9:=by have:=hn9.out;have:=g02.size;have:=g23.size;omega
 have g06:Gr w w6:=GrX.all g05 gx6 (fun x hx => by rw [List.mem_singleton.1 hx];exact hw9);have hA6:=(hA4.out.gr g45).grx gx6 (by simp;omega);have hro:∀ x,ra = some x→x.block ≠ n9:=fun x hx e0 => owns_blk hR4.out.o hT4.out (by decide) (by rw [hx];show some x.block = some n9;rw [e0])
 have hdo:∀ y ∈ R,∀ x,y.a = some x→x.block ≠ n9:=fun y hy x hx e0 => owns_blk (hR4.out.d y hy).1 hT4.out (by decide) (by rw [hx];show some x.block = some n9;rw [e0])
 have hR6:=(hR4.out.gr g45).grx gx6 (fun x hx => by simpa using hro x hx) (fun y hy x hx => by simpa using hdo y hy x hx);clear a0 a1 a2 a3 zA;replace hT5:=Lib.hid hT5;replace hw6:=Lib.hid hw6;replace hro:=Lib.hid hro;replace hdo:=Lib.hid hdo;replace hT6:=Lib.hid hT6;replace hA6:=Lib.hid hA6;replace hR6:=Lib.hid hR6;replace gx6:=Lib.hid gx6;go_upto_region 7 with fail
 rw [← hw6.out];clear fT0 fT1 fT2 fT3 cT0 cT1 cT2 cT3 zT;have hd6:=hb.gr g06;have hx6:∀ x,a = some x→x.block < w6.heap.size:=fun x h0 => Nat.lt_of_lt_of_le (hx x h0) g06.size
 obtain ⟨l,hbl⟩:∃ l,l = b.length:=⟨_,rfl⟩
 rw [← hbl];rw [← hbl] at hlb;have t1:decide ((32000:Int) < l) = false:=decide_eq_false (by omega);have t2:¬ (32000:Int) < l:=by omega
 have t3:(l:Int)≤32000:=by omega
 have hnx:=next_any w6 (hE.out.gr (gW.trans g06)) i4 i5 i1 i2 i3 i6 (hD.out.gr g06) hl.out (by omega) h4 w f1 H u1 rc ra R hR6.out hRl (by rw [hRn.out];exact hlE.out);obtain ⟨T,hT⟩:∃ T,T = fmtT M.d:=⟨_,rfl⟩
 have hT2:topF M.d (R.map (·.r)) = T:=by rw [hRn.out,hN.out,hT];rfl
 rw [← hT] at ht;have hTle:T≤1099511627776:=by rw [hT];exact topS_le (by rw [← hN.out];exact hlE.out) _ _
 unfold NextP at hnx;rw [hT2,nextV_yes E ht,← hk.out] at hnx;have a0:=hA6.out.cell (i:=0) (v:=.int .i64 f1) rfl;have a1:=hA6.out.cell (i:=1) (v:=.int .i64 H) rfl;have a2:=hA6.out.cell (i:=2) (v:=.int .i64 u1) rfl;have a3:=hA6.out.cell (i:=3) (v:=.slice ra k rc) rfl;have zA:=hA6.out.lt;replace hnx:=Lib.hid hnx;replace hT:=Lib.hid hT;replace hT2:=Lib.hid hT2;replace hd6:=Lib.hid hd6;replace hx6:=Lib.hid hx6;replace hbl:=Lib.hid hbl;replace hb:=Lib.hid hb;replace hc:=Lib.hid hc;replace hx:=Lib.hid hx;go_wp2_with fail;refine hnx.out.mono ?_;rintro q w7 ⟨g67,rfl⟩;clear a0 a1 a2 a3 zA;have g07:=g06.trans g67;have hT7:=hT6.out.gr g67;have hA7:=hA6.out.gr g67;have hR7:=hR6.out.gr g67;have n0:=hT7.cell (i:=0) (v:=.int .i64 f1) rfl;have n1:=hT7.cell (i:=1) (v:=.int .i64 H) rfl;have n2:=hT7.cell (i:=2) (v:=.int .i64 0) rfl;have n3:=hT7.cell (i:=3) (v:=.slice none 0 0) rfl;have zN:=hT7.lt;have hnu7:Calls Tryz.prog 75 #[.pointer (some ⟨n6,0,none⟩)] w7.drew fun e w' => e = .returned (.int .i64 (0:Int))∧w' = w7.drew:=by
  have:=number_area w w7.drew n6 f1 H u1 ra rc R (by rw [← hk.out];exact hA7.drew) (hR7.gr (Gr.refl _).drew);rw [hRn.out,← hm.out] at this;exact this
 have hm1:IntKind.i64.wrap 1 = (1:Int):=rfl;obtain ⟨w8,hw8⟩:∃ w8,w8 = (w7.alloc (.cells #[.pointer (some ⟨db,0,none⟩),.int .i64 f1,.int .i64 H,.int .i64 0,.slice none 0 0,.int .i64 (1:Int),.int .i64 ((T:Int) + 1)] 164)).drew:=⟨_,rfl⟩
 have g78:Gr w7 w8:=by rw [hw8];exact ((Gr.refl _).alloc _).drew
 obtain ⟨lb,hlbe⟩:∃ lb,lb = w7.heap.size:=⟨_,rfl⟩
 have hL8:Blk w8 lb #[.pointer (some ⟨db,0,none⟩),.int .i64 f1,.int .i64 H,.int .i64 0,.slice none 0 0,.int .i64 (1:Int),.int .i64 ((T:Int) + 1)] 164:=by rw [hw8,hlbe];exact (Blk.new _ _ _).drew
 have hT8:=hT7.gr g78;have g08:=g07.trans g78;have hsz7:=g07.size;have hlbM:lb ∉ M.own db:=fun h0 => by have:=hlt.out lb h0;omega
 replace hnu7:=Lib.hid hnu7;replace hT7:=Lib.hid hT7;replace hA7:=Lib.hid hA7;replace hR7:=Lib.hid hR7;replace hw8:=Lib.hid hw8;replace hlbe:=Lib.hid hlbe;replace hL8:=Lib.hid hL8;replace hT8:=Lib.hid hT8;replace hlbM:=Lib.hid hlbM;go_upto_region 12 with fail
 go_region_held3 (fun w' => w'.cell? ⟨n9,0,none⟩ = some (.int .i64 f1)∧w'.cell? ⟨n9,1,none⟩ = some (.int .i64 H)∧w'.cell? ⟨n9,2,none⟩ = some (.int .i64 0)∧w'.cell? ⟨n9,3,none⟩ = some (.slice none 0 0)) (simp (maxDischargeDepth:=8) [go_sem, *])
  (first
   | (go_at_call 75;(with_reducible refine hnu7.out.mono ?_);rintro q wA ⟨rfl,hwA⟩;subst wA)
   | fail)
 rw [← hw8.out,← hlbe.out];clear n0 n1 n2 n3 zN;have n0:=hT8.out.cell (i:=0) (v:=.int .i64 f1) rfl;have n1:=hT8.out.cell (i:=1) (v:=.int .i64 H) rfl;have n2:=hT8.out.cell (i:=2) (v:=.int .i64 0) rfl;have n3:=hT8.out.cell (i:=3) (v:=.slice none 0 0) rfl;have zN:=hT8.out.lt;have l5:=hL8.out.cell (i:=5) (v:=.int .i64 (1:Int)) rfl;have zL:=hL8.out.lt;have hrm:Calls Tryz.prog 77 #[.agg #[.int .i64 f1,.int .i64 H,.int .i64 0,.slice none 0 0],.agg #[.int .i64 (1:Int),.int .i64 ((T:Int) + 1),.int .i64 0,.slice a l c]] w8.drew fun q w' => q = .returned .nilIface∧Gr w8.drew w':=by
  have hfr:fmtR M.d b = ⟨0 + 1,T + 1,0,b⟩:=by unfold fmtR;rw [← hT.out,← hN.out,← hm.out]
  have:=room_yes w8.drew f1 H 0 none 0 0 (fmtR M.d b) a c (by rw [hfr];dsimp only;omega) (hb.out.gr g08.drew) hc.out (fun x h0 => Nat.lt_of_lt_of_le (hx.out x h0) g08.size) (by rw [hfr];show b.length≤_;have:=hbl.out;omega) (by rw [hH.out];exact hfit);rw [hfr] at this;rw [hbl.out];exact this
 replace hrm:=Lib.hid hrm;go_upto_region 13 with fail
 go_region_held3 (fun w' => w'.cell? ⟨n9,0,none⟩ = some (.int .i64 f1)∧w'.cell? ⟨n9,1,none⟩ = some (.int .i64 H)∧w'.cell? ⟨n9,2,none⟩ = some (.int .i64 0)∧w'.cell? ⟨n9,3,none⟩ = some (.slice none 0 0)∧w'.cell? ⟨lb,5,none⟩ = some (.int .i64 (1:Int))) (simp (maxDischargeDepth:=8) [go_sem, *])
  (first
   | (go_at_call 77;(with_reducible refine hrm.out.mono ?_);rintro q w9 ⟨rfl,g89⟩;have hT9:=(hT8.out.drew).gr g89;have hL9:=(hL8.out.drew).gr g89;have p0:=hT9.cell (i:=0) (v:=.int .i64 f1) rfl;have p1:=hT9.cell (i:=1) (v:=.int .i64 H) rfl;have p2:=hT9.cell (i:=2) (v:=.int .i64 0) rfl;have p3:=hT9.cell (i:=3) (v:=.slice none 0 0) rfl;have p5:=hL9.cell (i:=5) (v:=.int .i64 (1:Int)) rfl;replace hT9:=Lib.hid hT9;replace hL9:=Lib.hid hL9)
   | fail)
 have g09:Gr w w9:=(g08.drew).trans g89;clear n0 n1 n2 n3 zN l5 zL p0 p1 p2 p3 p5;have hlt9:M.d.lost = false:=hl.out;have hD9:=hD.out.gr g09;have hcl:Calls Tryz.prog 78 #[.pointer (some ⟨db,0,none⟩),.int .i64 ((T:Int) + 1)] w9 fun r w' => ∃ M',r = .returned .nilIface∧DskP db (claimD M.d (T + 1)) M M' w9 w'∧M'.m≤M.m + (M.d.C.length + 1):=claim_any w9 (hE.out.gr (gW.trans g09)) i4 i5 hD9 hlt9 (by omega) (by omega) h4 (T + 1) (by omega)
 replace hcl:=Lib.hid hcl;replace hD9:=Lib.hid hD9;go_wp2_with fail;refine hcl.out.mono ?_;rintro q w10 ⟨M1,rfl,hP1,hm1'⟩;have hn1':M1.d.n = M.d.n:=by rw [hP1.1];rfl
 have hC1':M1.d.C.length = 0:=by rw [hP1.1];rfl
 have hl1':M1.d.lost = false:=by rw [hP1.1];exact hlt9
 have hlb9:lb < w9.heap.size:=hL9.out.lt;have hlw:w.heap.size≤lb:=by have:=hlbe.out;omega
 have hown1:∀ y ∈ M1.own db,y ∈ M.own db ∨ w.heap.size≤y:=fun y hy => (hP1.2.2.2 y hy).imp id (fun h0 => Nat.le_trans g09.size h0)
 have hL10:=hL9.out.grx hP1.2.2.1 hlbM.out;have g10:GrX (M.own db) w w10:=(g09.x _).trans hP1.2.2.1;have gW10:Gr W w10:=GrX.all (gW) g10 hMW;have hM1W:∀ y ∈ M1.own db,W.heap.size≤y:=fun y hy => by
  rcases hown1 y hy with h0 | h0
  ·exact hMW y h0
  ·have:=gW.size;omega
 have hfr:fmtR M.d b = ⟨0 + 1,T + 1,0,b⟩:=by unfold fmtR;rw [← hT.out,← hN.out,← hm.out]
 have hff:=of_decide_eq_true hfit;rw [Nat.zero_add,← hH.out] at hff;have hsf:f1 = firstD M.d (fmtS M.d):=by
  unfold fmtS;rw [← hN.out,← hm.out,if_pos rfl];exact hf1.out
 have hfh:f1 + H≤M1.d.n:=by rw [hn1',hsf,hH.out];unfold firstD halfD;split <;> omega
 have hlbM1:lb ∉ M1.own db:=blk_apart hL10 hP1.2.1 (by decide) (by decide);have ha10:BytesAt w10 a b:=(hb.out.gr g09).grx hP1.2.2.1 (fun y hy _ => hxM y hy);have haM1:∀ x,a = some x→x.block ∉ M1.own db:=fun x h0 hm2 => by
  rcases hown1 _ hm2 with h1 | h1
  ·exact hxM x h0 h1
  ·have:=hx.out x h0;omega
 have hgs10:=g10.size;have hrv:rcV (fmtR M.d b) a c = .agg #[.int .i64 (1:Int),.int .i64 ((T:Int) + 1),.int .i64 0,.slice a l c]:=by rw [hfr,hbl.out];rfl
 have hwr:Calls Tryz.prog 79 #[.pointer (some ⟨lb,1,none⟩),.pointer (some ⟨db,0,none⟩),.agg #[.int .i64 (1:Int),.int .i64 ((T:Int) + 1),.int .i64 0,.slice a l c]] w10.drew fun q w' => q = .returned .nilIface∧WrtP W db lb 1 #[.pointer (some ⟨db,0,none⟩),.int .i64 f1,.int .i64 H,.int .i64 0,.slice none 0 0,.int .i64 (1:Int),.int .i64 ((T:Int) + 1)] 164 M1 f1 0 none [] (fmtR M.d b) w10.drew w':=by
  rw [← hrv];exact write_yes W w10.drew hE.out (gW10.drew) i4 i5 (hP1.2.1.gr (Gr.refl _).drew) hl1' (by omega) hM1W lb 1 _ _ f1 H 0 0 none [] (hL10.drew) rfl rfl rfl rfl hlbM1 (by decide) (by decide) (RowAt.nil _ _) (by simp) (fmtR M.d b) a c (by rw [hfr];dsimp only;rw [hfr] at hff;dsimp only at hff;omega) (ha10.gr (Gr.refl _).drew) hc.out (fun x h0 => by have:=hx.out x h0;show x.block < w10.heap.size;omega) haM1 (by rw [hfr];show b.length≤_;have:=hbl.out;omega) (by omega) hfh
 have l5:=hL10.cell (i:=5) (v:=.int .i64 (1:Int)) rfl;have l6:=hL10.cell (i:=6) (v:=.int .i64 ((T:Int) + 1)) rfl;have zL:=hL10.lt;replace hwr:=Lib.hid hwr;replace hL10:=Lib.hid hL10;replace hP1:=Lib.hid hP1;replace hown1:=Lib.hid hown1;replace hM1W:=Lib.hid hM1W;replace hfr:=Lib.hid hfr;replace hff:=Lib.hid hff;replace hsf:=Lib.hid hsf;replace hrv:=Lib.hid hrv;replace haM1:=Lib.hid haM1;replace hlbM1:=Lib.hid hlbM1;replace hl1':=Lib.hid hl1';replace hxM:=Lib.hid hxM;replace hMW:=Lib.hid hMW;go_upto_region 19 with fail
 go_region_held3 (fun w' => w'.cell? ⟨lb,5,none⟩ = some (.int .i64 (1:Int))∧w'.cell? ⟨lb,6,none⟩ = some (.int .i64 ((T:Int) + 1))) (simp (maxDischargeDepth:=8) [go_sem, *])
  (first
   | (go_at_call 79;(with_reducible refine hwr.out.mono ?_);rintro q w11 ⟨rfl,⟨⟨M2,ra9,rc9,a9,c9,x1,x2,x3,x4,x5,x6,x7⟩,x8⟩⟩;have y5:=x4.cell (i:=5) (v:=.int .i64 (1:Int)) rfl;have y6:=x4.cell (i:=6) (v:=.int .i64 ((T:Int) + 1)) rfl;replace x1:=Lib.hid x1;replace x2:=Lib.hid x2;replace x4:=Lib.hid x4;replace x5:=Lib.hid x5;replace x6:=Lib.hid x6;replace x7:=Lib.hid x7;replace x8:=Lib.hid x8)
   | fail)
 clear l5 l6 y5 y6;have hcr:costR (fmtR M.d b)≤511:=by have:=hff.out;omega
 have hC2:M2.d.C.length = costR (fmtR M.d b):=by rw [x2.out,show (putD M1.d (f1 + 0) (frR (fmtR M.d b))).C.length = M1.d.C.length + costR (fmtR M.d b) from putK_len _ _ _ _,hC1',Nat.zero_add]
 have hfl:=dflush_any w11 x1.out (by rw [x2.out];exact hl1'.out) (by omega) (by omega);replace hfl:=Lib.hid hfl;go_wp2_with fail;refine hfl.out.mono ?_;rintro q w12 ⟨M3,rfl,hP3,hm3⟩;have hlM2:lb ∉ M2.own db:=blk_apart x4.out x1.out (by decide) (by decide);have hrow:RowAt W w12 ra9 rc9 ([] ++ [⟨fmtR M.d b,a9,c9⟩]):=x5.out.grx hP3.2.2.1 (fun y hy => own_apart x5.out.o x1.out (by decide) (by decide) y.block (own_blk hy)) (fun y hy z hz => own_apart (x5.out.d y hy).1 x1.out (by decide) (by decide) z.block (own_blk hz));have hLf:=x4.out.grx hP3.2.2.1 hlM2;have h3n:M3.d.n = M.d.n:=by rw [hP3.1,x2.out];exact hn1'
 have h3C:M3.d.C.length = 0:=by rw [hP3.1];rfl
 have h3d:M3.d = (putD (claimD M.d (fmtT M.d + 1)) (firstD M.d (fmtS M.d)) (frR (fmtR M.d b))).flush:=by rw [hP3.1,x2.out,hP1.out.1,← hsf.out,← hT.out];rfl
 have h3o:∀ y ∈ M3.own db,y ∈ M.own db ∨ w.heap.size≤y:=fun y hy => by
  rcases hP3.2.2.2 y hy with h0 | h0
  ·rcases x6.out y h0 with h1 | h1
   ·exact hown1.out y h1
   ·exact .inr (Nat.le_trans hgs10 h1)
  ·have:=x8.out.size;have h9:w10.heap.size≤w10.drew.heap.size:=Nat.le_refl _;exact .inr (by omega)
 have h3g:GrX (M.own db) w w12:=by
  have hs10:∀ y,y ∈ M1.own db→y ∈ M.own db ∨ w.heap.size≤y:=hown1.out;refine ((g10.drew).join x8.out (fun y hy => ?_)).join hP3.2.2.1 (fun y hy => ?_)
  ·rcases List.mem_cons.1 hy with rfl | hy
   ·exact .inr hlw
   ·have hy2:y ∈ M1.own db:=by simpa using hy
    exact hs10 y hy2
  ·rcases x6.out y hy with h1 | h1
   ·exact hs10 y h1
   ·exact .inr (Nat.le_trans hgs10 h1)
 have hk9:RcsOk [fmtR M.d b]:=by
  refine RcsOk.nil.snoc (r:=fmtR M.d b) ((folF_nil _).2 ⟨by rw [hfr.out],by rw [hfr.out];dsimp only;omega⟩) ⟨⟨hff.out.2,by rw [hfr.out];dsimp only;omega,by rw [hfr.out];exact Nat.zero_le _,by rw [hfr.out];show b.length≤_;have:=hbl.out;omega⟩,?_⟩;have:=recB_le (r:=fmtR M.d b) (by rw [hfr.out];dsimp only;have:=hff.out.2;rw [hfr.out] at this;dsimp only at this;omega) (by rw [hfr.out];show b.length≤_;have:=hbl.out;omega);omega
 have hfin:FmtP W E db b M w (.returned (.tuple #[.pointer (some ⟨lb,0,none⟩),.nilIface])) w12:=by
  refine ⟨⟨lb,M3,⟨fmtS M.d,numF (newR M.d) + 1,fmtT M.d + 1,[⟨fmtR M.d b,a9,c9⟩],ra9,rc9⟩,rfl,h3d,rfl,by omega,hP3.2.1,⟨?_,hrow,by have:=gW.size;omega,?_⟩,h3o,fun y hy => ?_⟩,h3g⟩
  ·have hu9:usedR (LogM.rs ⟨fmtS M.d,numF (newR M.d) + 1,fmtT M.d + 1,[⟨fmtR M.d b,a9,c9⟩],ra9,rc9⟩) = 0 + costR (fmtR M.d b):=by rw [Nat.zero_add];exact usedR_one _
   have e1:firstD M3.d (fmtS M.d) = f1:=by rw [hsf.out];unfold firstD halfD;rw [h3n]
   have e2:halfD M3.d = H:=by rw [hH.out];unfold halfD;rw [h3n]
   show Blk w12 lb (logC db (firstD M3.d (fmtS M.d)) (halfD M3.d) (usedR (LogM.rs ⟨fmtS M.d,numF (newR M.d) + 1,fmtT M.d + 1,[⟨fmtR M.d b,a9,c9⟩],ra9,rc9⟩)) ra9 1 rc9 (numF (newR M.d) + 1) (fmtT M.d + 1)) _;rw [hu9,e1,e2,← hN.out,← hm.out,← hT.out];exact hLf
  ·refine ⟨?_,Nat.le_refl _,?_,?_,hk9,fun r hr => ?_⟩
   ·show usedR [fmtR M.d b]≤halfD M3.d;rw [usedR_one];have:=hff.out.1;rw [hH.out] at this;unfold halfD at this ⊢;rw [h3n];exact this
   ·exact hff.out.2
   ·show fmtT M.d + 1≤_;rw [← hT.out];omega
   ·rw [List.mem_singleton.1 hr];exact ⟨rfl,Nat.le_refl _⟩
  ·rcases List.mem_cons.1 hy with rfl | hy
   ·exact hlw
   ·cases hra:ra9 with
    | none => rw [show (LogM.ra ⟨fmtS M.d,numF (newR M.d) + 1,fmtT M.d + 1,[⟨fmtR M.d b,a9,c9⟩],ra9,rc9⟩) = none from hra] at hy;cases hy
    | some q2 =>
     rw [show (LogM.ra ⟨fmtS M.d,numF (newR M.d) + 1,fmtT M.d + 1,[⟨fmtR M.d b,a9,c9⟩],ra9,rc9⟩) = some q2 from hra] at hy;rw [List.mem_singleton.1 (show y ∈ [q2.block] from hy)];rcases x7.out q2 hra with ⟨q3,h3,-⟩ | h3
     ·cases h3
     ·exact Nat.le_trans hgs10 h3
 clear hrow hLf h3d h3g h3o hk9;replace hP3:=Lib.hid hP3;replace hfin:=Lib.hid hfin;go_wp2_with fail;go_ret2;exact hfin.out
end Go.Proofs.YteigofaccjaobaaGreatDoor
