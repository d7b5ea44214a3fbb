/- The law PlanShares. -/
import Derived.Test.YtkfkfcfbcfcbkaaDoorA4
import Derived.Test.YtkfkfcfbcfcbkaaDoorN10
import Derived.Test.YtkfkfcfbcfcbkaaDoorR2
namespace Go.Proofs.YtkfkfcfbcfcbkaaDoor
open Go.RowKit

set_option maxRecDepth 100000 in
set_option maxHeartbeats 3200000 in
theorem planShares_walk {G : List Nat} {E : Nat → Addr} (a : Option Addr) (l : List Srv) (c : Nat) (b : Option Addr) (m : List Tsk) (d : Nat) (s : Srv) (w : World) (hE : EAt G E w) (hG : ∀ x ∈ errNos, x ∈ G)
    (hl : SrvsAt w a l) (hm : l.length * 24 ≤ 140737488351232) (hc : a = none → c = 0) (hl' : TsksAt w b m) (hm' : m.length * 32 ≤ 140737488351232) (hd : b = none → d = 0) :
    Calls Tryd.prog 11 #[.slice a l.length c, .slice b m.length d, .agg #[.int .i64 s.k, .int .i64 s.q, .int .i64 s.t]] w fun e w' => e = .returned (.bool true) ∧ Gr w w' := by
  obtain ⟨i27, hi, hz0, hz1, hz2⟩ := info_parts Tryd.infoSrv
  obtain ⟨i72, hj, hy0, hy1, hy2⟩ := info_parts Tryd.infoTsk
  have i0 := hG 0 (by decide)
  have hmm : l.length ≤ maxLen := by unfold maxLen; omega
  have n2 : l.length * 24 ≤ 140737488355328 := by omega
  have hmm' : m.length ≤ maxLen := by unfold maxLen; omega
  have n2' : m.length * 32 ≤ 140737488355328 := by omega
  have hE0 := hE.gr ((Gr.refl w).alloc (.cells #[.int .i64 s.k, .int .i64 s.q, .int .i64 s.t] 27))
  have hl0 := hl.gr ((Gr.refl w).alloc (.cells #[.int .i64 s.k, .int .i64 s.q, .int .i64 s.t] 27))
  have hl0' := hl'.gr ((Gr.refl w).alloc (.cells #[.int .i64 s.k, .int .i64 s.q, .int .i64 s.t] 27))
  have shr := srvErr_shr (l := l)
  have hso := srvErr_mem (l := l)
  have hto := tskErr_mem (l := m)
  replace shr := Lib.hid shr
  replace hso := Lib.hid hso
  replace hto := Lib.hid hto
  go_enter Tryd.func11, Tryd.ntmps11
  go_wp2_with fail
  refine (alive08 _ hE0 i0).mono ?_
  rintro e wa ⟨rfl, ga⟩
  obtain ⟨ca, fa, sa⟩ := ga.cells
  try simp only [size_drewN] at ca fa sa
  try simp only [World.size_alloc] at ca fa sa
  try simp only [World.size_drew] at ca fa sa
  try simp only [World.size_setCell] at ca fa sa
  have za0 : w.heap.size < wa.heap.size := by omega
  have ya0 : w.heap.size ≤ wa.heap.size := by omega
  have ka0 := fun o => ca (w.heap.size) o (by omega)
  have ja0 := fun o => fa (w.heap.size) o (by omega)
  have ea := hE0.gr ga
  have la := hl0.gr ga
  have ta := hl0'.gr ga
  go_wp2_with (at_builtin; refine wpList_copyN (k := 3) (enc := Srv.cells) rfl _ _ 22 rfl 27 i27 _ 24 Tryd.underlying22 hi hz0 hz1 hz2 rfl (by decide) Srv.cells_len Srv.cells_one wa.heap.size rfl rfl a c l rfl (srvs_recs la) hc hmm n2 ?_; intro v1 wc hown gc)
  obtain ⟨a1, c1, rfl, r1, _, _⟩ := recs_of_owns Srv.cells_len hown
  clear hown
  have ec := ea.gr gc
  have lc := la.gr gc
  have tc := ta.gr gc
  obtain ⟨cc, fc, sc⟩ := gc.cells
  have zc : w.heap.size < wc.heap.size := by omega
  have kc := fun o => cc w.heap.size o (by omega)
  go_wp2_with fail
  refine (plan_servers a1 l c1 _ ec hG (recs_srvs r1) hmm).mono ?_
  rintro e wd ⟨rfl, gd⟩
  obtain ⟨cd, fd, sd⟩ := gd.cells
  try simp only [size_drewN] at cd fd sd
  try simp only [World.size_alloc] at cd fd sd
  try simp only [World.size_drew] at cd fd sd
  try simp only [World.size_setCell] at cd fd sd
  have zd0 : w.heap.size < wd.heap.size := by omega
  have yd0 : w.heap.size ≤ wd.heap.size := by omega
  have kd0 := fun o => cd (w.heap.size) o (by omega)
  have jd0 := fun o => fd (w.heap.size) o (by omega)
  have ed := ec.gr gd
  have ld := lc.gr gd
  have td := tc.gr gd
  go_wp2_with fail
  refine (ref_servers a l c _ (ld.gr ((Gr.refl _).alloc _)) hmm).mono ?_
  rintro e we ⟨rfl, ge⟩
  obtain ⟨ce, fe, se⟩ := ge.cells
  try simp only [size_drewN] at ce fe se
  try simp only [World.size_alloc] at ce fe se
  try simp only [World.size_drew] at ce fe se
  try simp only [World.size_setCell] at ce fe se
  have ze0 : w.heap.size < we.heap.size := by omega
  have ye0 : w.heap.size ≤ we.heap.size := by omega
  have ke0 := fun o => ce (w.heap.size) o (by omega)
  have je0 := fun o => fe (w.heap.size) o (by omega)
  have ze1 : wd.heap.size < we.heap.size := by omega
  have ye1 : wd.heap.size ≤ we.heap.size := by omega
  have ke1 := fun o => ce (wd.heap.size) o (by omega)
  have je1 := fun o => fe (wd.heap.size) o (by omega)
  have ee := (ed.gr ((Gr.refl _).alloc (.cells #[.int .u64 (pw (srvErr l) (shareS l) 0), .int .u64 (pw (srvErr l) (shareS l) 1), .int .u64 (pw (srvErr l) (shareS l) 2), .int .u64 (pw (srvErr l) (shareS l) 3)] 41))).gr ge
  have te := (td.gr ((Gr.refl _).alloc (.cells #[.int .u64 (pw (srvErr l) (shareS l) 0), .int .u64 (pw (srvErr l) (shareS l) 1), .int .u64 (pw (srvErr l) (shareS l) 2), .int .u64 (pw (srvErr l) (shareS l) 3)] 41))).gr ge
  have te2 := tsks_recs (te.gr ((Gr.refl _).alloc (.cells #[.int .u64 (pw (srvErr l) (shareS l) 0), .int .u64 (pw (srvErr l) (shareS l) 1), .int .u64 (pw (srvErr l) (shareS l) 2), .int .u64 (pw (srvErr l) (shareS l) 3)] 41)))
  go_wp2_with (at_builtin; refine wpList_copyN (k := 4) (enc := Tsk.cells) rfl _ _ 29 rfl 72 i72 _ 32 Tryd.underlying29 hj hy0 hy1 hy2 rfl (by decide) Tsk.cells_len Tsk.cells_one (we.heap.size + 1) (by simp) rfl b d m rfl te2 hd hmm' n2' ?_; intro v2 wf hown gf)
  obtain ⟨b1, d1, rfl, r2, _, _⟩ := recs_of_owns Tsk.cells_len hown
  clear hown
  obtain ⟨cf, ff, sf⟩ := gf.cells
  simp only [World.size_alloc] at cf ff sf
  have zf : w.heap.size < wf.heap.size := by omega
  have zf1 : wd.heap.size < wf.heap.size := by omega
  have zf2 : we.heap.size < wf.heap.size := by omega
  have kf := fun o => cf w.heap.size o (by omega)
  have kf1 := fun o => cf wd.heap.size o (by omega)
  have kf2 := fun o => cf we.heap.size o (by omega)
  have ef := (ee.gr ((Gr.refl _).alloc _)).gr gf
  have tf := (te.gr ((Gr.refl _).alloc _)).gr gf
  go_wp2_with fail
  refine (plan_tasks b1 m d1 _ ef hG (recs_tsks r2) hmm').mono ?_
  rintro e wg ⟨rfl, gg⟩
  obtain ⟨cg, fg, sg⟩ := gg.cells
  try simp only [size_drewN] at cg fg sg
  try simp only [World.size_alloc] at cg fg sg
  try simp only [World.size_drew] at cg fg sg
  try simp only [World.size_setCell] at cg fg sg
  have zg0 : w.heap.size < wg.heap.size := by omega
  have yg0 : w.heap.size ≤ wg.heap.size := by omega
  have kg0 := fun o => cg (w.heap.size) o (by omega)
  have jg0 := fun o => fg (w.heap.size) o (by omega)
  have zg1 : wd.heap.size < wg.heap.size := by omega
  have yg1 : wd.heap.size ≤ wg.heap.size := by omega
  have kg1 := fun o => cg (wd.heap.size) o (by omega)
  have jg1 := fun o => fg (wd.heap.size) o (by omega)
  have zg2 : we.heap.size < wg.heap.size := by omega
  have yg2 : we.heap.size ≤ wg.heap.size := by omega
  have kg2 := fun o => cg (we.heap.size) o (by omega)
  have jg2 := fun o => fg (we.heap.size) o (by omega)
  have eg := ef.gr gg
  have tg := tf.gr gg
  go_wp2_with fail
  refine (ref_tasks b m d _ (tg.gr ((Gr.refl _).alloc _)) hmm').mono ?_
  rintro e wh ⟨rfl, gh⟩
  obtain ⟨ch, fh, sh⟩ := gh.cells
  try simp only [size_drewN] at ch fh sh
  try simp only [World.size_alloc] at ch fh sh
  try simp only [World.size_drew] at ch fh sh
  try simp only [World.size_setCell] at ch fh sh
  have zh0 : w.heap.size < wh.heap.size := by omega
  have yh0 : w.heap.size ≤ wh.heap.size := by omega
  have kh0 := fun o => ch (w.heap.size) o (by omega)
  have jh0 := fun o => fh (w.heap.size) o (by omega)
  have zh1 : wd.heap.size < wh.heap.size := by omega
  have yh1 : wd.heap.size ≤ wh.heap.size := by omega
  have kh1 := fun o => ch (wd.heap.size) o (by omega)
  have jh1 := fun o => fh (wd.heap.size) o (by omega)
  have zh2 : we.heap.size < wh.heap.size := by omega
  have yh2 : we.heap.size ≤ wh.heap.size := by omega
  have kh2 := fun o => ch (we.heap.size) o (by omega)
  have jh2 := fun o => fh (we.heap.size) o (by omega)
  have zh3 : wg.heap.size < wh.heap.size := by omega
  have yh3 : wg.heap.size ≤ wh.heap.size := by omega
  have kh3 := fun o => ch (wg.heap.size) o (by omega)
  have jh3 := fun o => fh (wg.heap.size) o (by omega)
  have eh := (eg.gr ((Gr.refl _).alloc (.cells #[.int .u64 (pw (tskErr m) (shareT m) 0), .int .u64 (pw (tskErr m) (shareT m) 1), .int .u64 (pw (tskErr m) (shareT m) 2), .int .u64 (pw (tskErr m) (shareT m) 3)] 41))).gr gh
  have eh2 := eh.gr ((Gr.refl _).alloc (.cells #[.int .u64 (pw (tskErr m) (shareT m) 0), .int .u64 (pw (tskErr m) (shareT m) 1), .int .u64 (pw (tskErr m) (shareT m) 2), .int .u64 (pw (tskErr m) (shareT m) 3)] 41))
  go_wp2_with fail
  refine (plan_within (srvErr l) (shareS l) s _ eh2 i0 shr.out).mono ?_
  rintro e wi ⟨rfl, gi⟩
  obtain ⟨ci, fi, si⟩ := gi.cells
  try simp only [size_drewN] at ci fi si
  try simp only [World.size_alloc] at ci fi si
  try simp only [World.size_drew] at ci fi si
  try simp only [World.size_setCell] at ci fi si
  have zi0 : w.heap.size < wi.heap.size := by omega
  have yi0 : w.heap.size ≤ wi.heap.size := by omega
  have ki0 := fun o => ci (w.heap.size) o (by omega)
  have ji0 := fun o => fi (w.heap.size) o (by omega)
  have zi1 : wd.heap.size < wi.heap.size := by omega
  have yi1 : wd.heap.size ≤ wi.heap.size := by omega
  have ki1 := fun o => ci (wd.heap.size) o (by omega)
  have ji1 := fun o => fi (wd.heap.size) o (by omega)
  have zi2 : we.heap.size < wi.heap.size := by omega
  have yi2 : we.heap.size ≤ wi.heap.size := by omega
  have ki2 := fun o => ci (we.heap.size) o (by omega)
  have ji2 := fun o => fi (we.heap.size) o (by omega)
  have zi3 : wg.heap.size < wi.heap.size := by omega
  have yi3 : wg.heap.size ≤ wi.heap.size := by omega
  have ki3 := fun o => ci (wg.heap.size) o (by omega)
  have ji3 := fun o => fi (wg.heap.size) o (by omega)
  have zi4 : wh.heap.size < wi.heap.size := by omega
  have yi4 : wh.heap.size ≤ wi.heap.size := by omega
  have ki4 := fun o => ci (wh.heap.size) o (by omega)
  have ji4 := fun o => fi (wh.heap.size) o (by omega)
  have ei := eh2.gr gi
  go_wp2_with fail
  refine (ref_within (srvErr l) (shareS l) s _ shr.out).mono ?_
  rintro e wj ⟨rfl, gj⟩
  obtain ⟨cj, fj, sj⟩ := gj.cells
  try simp only [size_drewN] at cj fj sj
  try simp only [World.size_alloc] at cj fj sj
  try simp only [World.size_drew] at cj fj sj
  try simp only [World.size_setCell] at cj fj sj
  have zj0 : w.heap.size < wj.heap.size := by omega
  have yj0 : w.heap.size ≤ wj.heap.size := by omega
  have kj0 := fun o => cj (w.heap.size) o (by omega)
  have jj0 := fun o => fj (w.heap.size) o (by omega)
  have zj1 : wd.heap.size < wj.heap.size := by omega
  have yj1 : wd.heap.size ≤ wj.heap.size := by omega
  have kj1 := fun o => cj (wd.heap.size) o (by omega)
  have jj1 := fun o => fj (wd.heap.size) o (by omega)
  have zj2 : we.heap.size < wj.heap.size := by omega
  have yj2 : we.heap.size ≤ wj.heap.size := by omega
  have kj2 := fun o => cj (we.heap.size) o (by omega)
  have jj2 := fun o => fj (we.heap.size) o (by omega)
  have zj3 : wg.heap.size < wj.heap.size := by omega
  have yj3 : wg.heap.size ≤ wj.heap.size := by omega
  have kj3 := fun o => cj (wg.heap.size) o (by omega)
  have jj3 := fun o => fj (wg.heap.size) o (by omega)
  have zj4 : wh.heap.size < wj.heap.size := by omega
  have yj4 : wh.heap.size ≤ wj.heap.size := by omega
  have kj4 := fun o => cj (wh.heap.size) o (by omega)
  have jj4 := fun o => fj (wh.heap.size) o (by omega)
  have ej := ei.gr gj
  go_wp2_with fail
  refine (num_errV (srvErr l) _ ej hG hso.out).mono ?_
  rintro e wk ⟨rfl, gk⟩
  obtain ⟨ck, fk, sk⟩ := gk.cells
  try simp only [size_drewN] at ck fk sk
  try simp only [World.size_alloc] at ck fk sk
  try simp only [World.size_drew] at ck fk sk
  try simp only [World.size_setCell] at ck fk sk
  have zk0 : w.heap.size < wk.heap.size := by omega
  have yk0 : w.heap.size ≤ wk.heap.size := by omega
  have kk0 := fun o => ck (w.heap.size) o (by omega)
  have jk0 := fun o => fk (w.heap.size) o (by omega)
  have zk1 : wd.heap.size < wk.heap.size := by omega
  have yk1 : wd.heap.size ≤ wk.heap.size := by omega
  have kk1 := fun o => ck (wd.heap.size) o (by omega)
  have jk1 := fun o => fk (wd.heap.size) o (by omega)
  have zk2 : we.heap.size < wk.heap.size := by omega
  have yk2 : we.heap.size ≤ wk.heap.size := by omega
  have kk2 := fun o => ck (we.heap.size) o (by omega)
  have jk2 := fun o => fk (we.heap.size) o (by omega)
  have zk3 : wg.heap.size < wk.heap.size := by omega
  have yk3 : wg.heap.size ≤ wk.heap.size := by omega
  have kk3 := fun o => ck (wg.heap.size) o (by omega)
  have jk3 := fun o => fk (wg.heap.size) o (by omega)
  have zk4 : wh.heap.size < wk.heap.size := by omega
  have yk4 : wh.heap.size ≤ wk.heap.size := by omega
  have kk4 := fun o => ck (wh.heap.size) o (by omega)
  have jk4 := fun o => fk (wh.heap.size) o (by omega)
  have ek := ej.gr gk
  go_wp2_with fail
  refine (num_errV (tskErr m) _ ek hG hto.out).mono ?_
  rintro e wn ⟨rfl, gn⟩
  obtain ⟨cn, fn, sn⟩ := gn.cells
  try simp only [size_drewN] at cn fn sn
  try simp only [World.size_alloc] at cn fn sn
  try simp only [World.size_drew] at cn fn sn
  try simp only [World.size_setCell] at cn fn sn
  have zn0 : w.heap.size < wn.heap.size := by omega
  have yn0 : w.heap.size ≤ wn.heap.size := by omega
  have kn0 := fun o => cn (w.heap.size) o (by omega)
  have jn0 := fun o => fn (w.heap.size) o (by omega)
  have zn1 : wd.heap.size < wn.heap.size := by omega
  have yn1 : wd.heap.size ≤ wn.heap.size := by omega
  have kn1 := fun o => cn (wd.heap.size) o (by omega)
  have jn1 := fun o => fn (wd.heap.size) o (by omega)
  have zn2 : we.heap.size < wn.heap.size := by omega
  have yn2 : we.heap.size ≤ wn.heap.size := by omega
  have kn2 := fun o => cn (we.heap.size) o (by omega)
  have jn2 := fun o => fn (we.heap.size) o (by omega)
  have zn3 : wg.heap.size < wn.heap.size := by omega
  have yn3 : wg.heap.size ≤ wn.heap.size := by omega
  have kn3 := fun o => cn (wg.heap.size) o (by omega)
  have jn3 := fun o => fn (wg.heap.size) o (by omega)
  have zn4 : wh.heap.size < wn.heap.size := by omega
  have yn4 : wh.heap.size ≤ wn.heap.size := by omega
  have kn4 := fun o => cn (wh.heap.size) o (by omega)
  have jn4 := fun o => fn (wh.heap.size) o (by omega)
  go_wp2_with fail
  go_ret
  refine ⟨retb (by first | rfl | simp), ?_⟩
  repeat (first | exact Gr.refl _ | apply Gr.alloc | apply Gr.drew | apply Gr.drewN | (refine Gr.setCell ?_ (by simp) _) | (refine Gr.trans ?_ (by assumption)))
end Go.Proofs.YtkfkfcfbcfcbkaaDoor
