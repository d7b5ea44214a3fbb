/- The law DemandPeriods. -/
import Derived.Test.YtkfkfcfbcfcbkaaDoorB2
import Derived.Test.YtkfkfcfbcfcbkaaDoorD3
namespace Go.Proofs.YtkfkfcfbcfcbkaaDoor
open Go.RowKit

theorem period_s {s : Srv} (hs : Leg s) {l : Int} : askedI s (l + s.t) = askedI s l + s.q := by
  obtain ⟨_, _, h3, h4, h5⟩ := hs
  have e : (l + s.t) / s.t = l / s.t + 1 := Int.add_ediv_of_dvd_right (Int.dvd_refl _) |>.trans (by rw [Int.ediv_self (by omega)])
  unfold askedI
  rw [e, Int.add_mul, Int.one_mul, Int.add_emod_right]
  split <;> omega
theorem period_t {t : Tsk} (ht : LegT t) {l : Int} (hl : 0 ≤ l) : taskI t (l + t.d + t.p) = taskI t (l + t.d) + t.c := by
  obtain ⟨h1, h2, h3, h4, h5, h6⟩ := ht
  unfold taskI
  rw [if_neg (by omega), if_neg (by omega)]
  have e0 : l + t.d + t.p - t.d = (l + t.d - t.d) + t.p := by omega
  have e : (l + t.d + t.p - t.d) / t.p = (l + t.d - t.d) / t.p + 1 := by
    rw [e0]
    exact Int.add_ediv_of_dvd_right (Int.dvd_refl _) |>.trans (by rw [Int.ediv_self (by omega)])
  rw [e, Int.add_mul _ 1 t.c, Int.one_mul]
theorem period_0 {t : Tsk} : taskI t (t.d - 1) = 0 := by
  unfold taskI; rw [if_pos (by omega)]

set_option maxHeartbeats 1600000 in
theorem demandPeriods_walk (s : Srv) (t : Tsk) (n : Int) (w : World) :
    Calls Tryd.prog 12 #[.agg #[.int .i64 s.k, .int .i64 s.q, .int .i64 s.t], .agg #[.int .i64 t.c, .int .i64 t.p, .int .i64 t.d, .int .i64 t.s], .int .i64 n] w fun e w' => e = .returned (.bool true) ∧ Gr w w' := by
  have mn := mask30 n
  have on : LenOk (bits .and .i64 n 1073741823) := ⟨by omega, by omega⟩
  have rs := rlegal_any s
  have rt := rlegalTask_any t
  cases hs : s.leg
  · rw [hs] at rs
    replace rs := Lib.hid rs
    replace hs := Lib.hid hs
    cases ht : t.leg
    · rw [ht] at rt
      replace rt := Lib.hid rt
      replace ht := Lib.hid ht
      go_enter Tryd.func12, Tryd.ntmps12
      go_wp2_with fail
      refine (alive11 _).mono ?_
      rintro e wa ⟨rfl, ga⟩
      obtain ⟨ca, fa, sa⟩ := ga.cells
      try simp only [World.size_alloc] at ca fa sa
      try simp only [World.size_drew] at ca fa sa
      try simp only [World.size_setCell] at ca fa sa
      have za0 : w.heap.size < wa.heap.size := by omega
      have ya0 : w.heap.size ≤ wa.heap.size := by omega
      have za1 : w.heap.size + 1 < wa.heap.size := by omega
      go_wp2_with fail
      refine (rs.out _).mono ?_
      rintro e wb ⟨rfl, gb⟩
      obtain ⟨cb, fb, sb⟩ := gb.cells
      try simp only [World.size_alloc] at cb fb sb
      try simp only [World.size_drew] at cb fb sb
      try simp only [World.size_setCell] at cb fb sb
      have zb0 : w.heap.size < wb.heap.size := by omega
      have yb0 : w.heap.size ≤ wb.heap.size := by omega
      have zb1 : w.heap.size + 1 < wb.heap.size := by omega
      go_wp2_with fail
      refine (rt.out _).mono ?_
      rintro e wf ⟨rfl, gf⟩
      obtain ⟨cf, ff, sf⟩ := gf.cells
      try simp only [World.size_alloc] at cf ff sf
      try simp only [World.size_drew] at cf ff sf
      try simp only [World.size_setCell] at cf ff sf
      have zf0 : w.heap.size < wf.heap.size := by omega
      have yf0 : w.heap.size ≤ wf.heap.size := by omega
      have zf1 : w.heap.size + 1 < wf.heap.size := by omega
      go_wp2_with fail
      go_ret
      refine ⟨rfl, ?_⟩
      repeat (first | exact Gr.refl _ | apply Gr.alloc | apply Gr.drew | apply Gr.drewN | (refine Gr.setCell ?_ (by simp) _) | (refine Gr.trans ?_ (by assumption)))
    · have hT : LegT t := (Tsk.leg_iff _).1 ht
      obtain ⟨t1, t2, t3, t4, t5, t6⟩ := (show 1 ≤ t.c ∧ t.c ≤ t.d ∧ t.d ≤ t.p ∧ t.p ≤ 256 ∧ 0 ≤ t.s ∧ t.s ≤ t.c from hT)
      have o1 : LenOk (bits .and .i64 n 1073741823 + t.d) := ⟨by omega, by omega⟩
      have o2 : LenOk (bits .and .i64 n 1073741823 + t.d + t.p) := ⟨by omega, by omega⟩
      have o3 : LenOk (t.d - 1) := ⟨by omega, by omega⟩
      have j1 := chkT1_none ht o1
      have j2 := chkT1_none ht o2
      have j3 := chkT1_none ht o3
      have b1 := task_bd hT o1
      have e2 := period_t hT mn.1
      have e3 := period_0 (t := t)
      have y1 := fun w => dtask_yes t _ w j1
      have y2 := fun w => dtask_yes t _ w j2
      have y3 := fun w => dtask_yes t _ w j3
      rw [e2] at y2
      rw [e3] at y3
      replace y1 := Lib.hid y1
      replace y2 := Lib.hid y2
      replace y3 := Lib.hid y3
      replace j1 := Lib.hid j1
      replace j2 := Lib.hid j2
      replace j3 := Lib.hid j3
      clear e2 e3 hT o1 o2 o3
      rw [ht] at rt
      replace rt := Lib.hid rt
      replace ht := Lib.hid ht
      go_enter Tryd.func12, Tryd.ntmps12
      go_wp2_with fail
      refine (alive11 _).mono ?_
      rintro e wa ⟨rfl, ga⟩
      obtain ⟨ca, fa, sa⟩ := ga.cells
      try simp only [World.size_alloc] at ca fa sa
      try simp only [World.size_drew] at ca fa sa
      try simp only [World.size_setCell] at ca fa sa
      have za0 : w.heap.size < wa.heap.size := by omega
      have ya0 : w.heap.size ≤ wa.heap.size := by omega
      have za1 : w.heap.size + 1 < wa.heap.size := by omega
      go_wp2_with fail
      refine (rs.out _).mono ?_
      rintro e wb ⟨rfl, gb⟩
      obtain ⟨cb, fb, sb⟩ := gb.cells
      try simp only [World.size_alloc] at cb fb sb
      try simp only [World.size_drew] at cb fb sb
      try simp only [World.size_setCell] at cb fb sb
      have zb0 : w.heap.size < wb.heap.size := by omega
      have yb0 : w.heap.size ≤ wb.heap.size := by omega
      have zb1 : w.heap.size + 1 < wb.heap.size := by omega
      go_wp2_with fail
      refine (rt.out _).mono ?_
      rintro e wf ⟨rfl, gf⟩
      obtain ⟨cf, ff, sf⟩ := gf.cells
      try simp only [World.size_alloc] at cf ff sf
      try simp only [World.size_drew] at cf ff sf
      try simp only [World.size_setCell] at cf ff sf
      have zf0 : w.heap.size < wf.heap.size := by omega
      have yf0 : w.heap.size ≤ wf.heap.size := by omega
      have zf1 : w.heap.size + 1 < wf.heap.size := by omega
      go_wp2_with fail
      refine (y1.out _).mono ?_
      rintro e wg ⟨rfl, gg⟩
      obtain ⟨cg, fg, sg⟩ := gg.cells
      try simp only [World.size_alloc] at cg fg sg
      try simp only [World.size_drew] at cg fg sg
      try simp only [World.size_setCell] at cg fg sg
      have zg0 : w.heap.size < wg.heap.size := by omega
      have yg0 : w.heap.size ≤ wg.heap.size := by omega
      have zg1 : w.heap.size + 1 < wg.heap.size := by omega
      go_wp2_with fail
      refine (y2.out _).mono ?_
      rintro e wh ⟨rfl, gh⟩
      obtain ⟨ch, fh, sh⟩ := gh.cells
      try simp only [World.size_alloc] at ch fh sh
      try simp only [World.size_drew] at ch fh sh
      try simp only [World.size_setCell] at ch fh sh
      have zh0 : w.heap.size < wh.heap.size := by omega
      have yh0 : w.heap.size ≤ wh.heap.size := by omega
      have zh1 : w.heap.size + 1 < wh.heap.size := by omega
      go_wp2_with fail
      refine (y3.out _).mono ?_
      rintro e wi ⟨rfl, gi⟩
      obtain ⟨ci, fi, si⟩ := gi.cells
      try simp only [World.size_alloc] at ci fi si
      try simp only [World.size_drew] at ci fi si
      try simp only [World.size_setCell] at ci fi si
      have zi0 : w.heap.size < wi.heap.size := by omega
      have yi0 : w.heap.size ≤ wi.heap.size := by omega
      have zi1 : w.heap.size + 1 < wi.heap.size := by omega
      generalize taskI t (bits .and .i64 n 1073741823 + t.d) = y at *
      go_wp2_with fail
      go_ret
      refine ⟨rfl, ?_⟩
      repeat (first | exact Gr.refl _ | apply Gr.alloc | apply Gr.drew | apply Gr.drewN | (refine Gr.setCell ?_ (by simp) _) | (refine Gr.trans ?_ (by assumption)))
  · have hL : Leg s := (Srv.leg_iff _).1 hs
    have os : LenOk (bits .and .i64 n 1073741823 + s.t) := ⟨by have := hL.2.2; omega, by have := hL.2.2; omega⟩
    have k1 := chk1_none hs on
    have k2 := chk1_none hs os
    have bs := asked_bd hL on
    have es := period_s hL (l := bits .and .i64 n 1073741823)
    replace k1 := Lib.hid k1
    replace k2 := Lib.hid k2
    have bq : 1 ≤ s.q ∧ s.q ≤ 256 := ⟨hL.2.2.1, Int.le_trans hL.2.2.2.1 hL.2.2.2.2⟩
    have bt : 1 ≤ s.t ∧ s.t ≤ 256 := ⟨Int.le_trans hL.2.2.1 hL.2.2.2.1, hL.2.2.2.2⟩
    have sy := fun w => server_yes s _ w k2.out
    rw [es] at sy
    replace sy := Lib.hid sy
    clear es hL
    rw [hs] at rs
    replace rs := Lib.hid rs
    replace hs := Lib.hid hs
    cases ht : t.leg
    · rw [ht] at rt
      replace rt := Lib.hid rt
      replace ht := Lib.hid ht
      go_enter Tryd.func12, Tryd.ntmps12
      go_wp2_with fail
      refine (alive11 _).mono ?_
      rintro e wa ⟨rfl, ga⟩
      obtain ⟨ca, fa, sa⟩ := ga.cells
      try simp only [World.size_alloc] at ca fa sa
      try simp only [World.size_drew] at ca fa sa
      try simp only [World.size_setCell] at ca fa sa
      have za0 : w.heap.size < wa.heap.size := by omega
      have ya0 : w.heap.size ≤ wa.heap.size := by omega
      have za1 : w.heap.size + 1 < wa.heap.size := by omega
      go_wp2_with fail
      refine (rs.out _).mono ?_
      rintro e wb ⟨rfl, gb⟩
      obtain ⟨cb, fb, sb⟩ := gb.cells
      try simp only [World.size_alloc] at cb fb sb
      try simp only [World.size_drew] at cb fb sb
      try simp only [World.size_setCell] at cb fb sb
      have zb0 : w.heap.size < wb.heap.size := by omega
      have yb0 : w.heap.size ≤ wb.heap.size := by omega
      have zb1 : w.heap.size + 1 < wb.heap.size := by omega
      go_wp2_with fail
      refine (server_yes s _ _ k1.out).mono ?_
      rintro e wd ⟨rfl, gd⟩
      obtain ⟨cd, fd, sd⟩ := gd.cells
      try simp only [World.size_alloc] at cd fd sd
      try simp only [World.size_drew] at cd fd sd
      try simp only [World.size_setCell] at cd fd sd
      have zd0 : w.heap.size < wd.heap.size := by omega
      have yd0 : w.heap.size ≤ wd.heap.size := by omega
      have zd1 : w.heap.size + 1 < wd.heap.size := by omega
      go_wp2_with fail
      refine (sy.out _).mono ?_
      rintro e we ⟨rfl, ge⟩
      obtain ⟨ce, fe, se⟩ := ge.cells
      try simp only [World.size_alloc] at ce fe se
      try simp only [World.size_drew] at ce fe se
      try simp only [World.size_setCell] at ce fe se
      have ze0 : w.heap.size < we.heap.size := by omega
      have ye0 : w.heap.size ≤ we.heap.size := by omega
      have ze1 : w.heap.size + 1 < we.heap.size := by omega
      generalize askedI s (bits .and .i64 n 1073741823) = x at *
      go_wp2_with fail
      refine (rt.out _).mono ?_
      rintro e wf ⟨rfl, gf⟩
      obtain ⟨cf, ff, sf⟩ := gf.cells
      try simp only [World.size_alloc] at cf ff sf
      try simp only [World.size_drew] at cf ff sf
      try simp only [World.size_setCell] at cf ff sf
      have zf0 : w.heap.size < wf.heap.size := by omega
      have yf0 : w.heap.size ≤ wf.heap.size := by omega
      have zf1 : w.heap.size + 1 < wf.heap.size := by omega
      go_wp2_with fail
      go_ret
      refine ⟨rfl, ?_⟩
      repeat (first | exact Gr.refl _ | apply Gr.alloc | apply Gr.drew | apply Gr.drewN | (refine Gr.setCell ?_ (by simp) _) | (refine Gr.trans ?_ (by assumption)))
    · have hT : LegT t := (Tsk.leg_iff _).1 ht
      obtain ⟨t1, t2, t3, t4, t5, t6⟩ := (show 1 ≤ t.c ∧ t.c ≤ t.d ∧ t.d ≤ t.p ∧ t.p ≤ 256 ∧ 0 ≤ t.s ∧ t.s ≤ t.c from hT)
      have o1 : LenOk (bits .and .i64 n 1073741823 + t.d) := ⟨by omega, by omega⟩
      have o2 : LenOk (bits .and .i64 n 1073741823 + t.d + t.p) := ⟨by omega, by omega⟩
      have o3 : LenOk (t.d - 1) := ⟨by omega, by omega⟩
      have j1 := chkT1_none ht o1
      have j2 := chkT1_none ht o2
      have j3 := chkT1_none ht o3
      have b1 := task_bd hT o1
      have e2 := period_t hT mn.1
      have e3 := period_0 (t := t)
      have y1 := fun w => dtask_yes t _ w j1
      have y2 := fun w => dtask_yes t _ w j2
      have y3 := fun w => dtask_yes t _ w j3
      rw [e2] at y2
      rw [e3] at y3
      replace y1 := Lib.hid y1
      replace y2 := Lib.hid y2
      replace y3 := Lib.hid y3
      replace j1 := Lib.hid j1
      replace j2 := Lib.hid j2
      replace j3 := Lib.hid j3
      clear e2 e3 hT o1 o2 o3
      rw [ht] at rt
      replace rt := Lib.hid rt
      replace ht := Lib.hid ht
      go_enter Tryd.func12, Tryd.ntmps12
      go_wp2_with fail
      refine (alive11 _).mono ?_
      rintro e wa ⟨rfl, ga⟩
      obtain ⟨ca, fa, sa⟩ := ga.cells
      try simp only [World.size_alloc] at ca fa sa
      try simp only [World.size_drew] at ca fa sa
      try simp only [World.size_setCell] at ca fa sa
      have za0 : w.heap.size < wa.heap.size := by omega
      have ya0 : w.heap.size ≤ wa.heap.size := by omega
      have za1 : w.heap.size + 1 < wa.heap.size := by omega
      go_wp2_with fail
      refine (rs.out _).mono ?_
      rintro e wb ⟨rfl, gb⟩
      obtain ⟨cb, fb, sb⟩ := gb.cells
      try simp only [World.size_alloc] at cb fb sb
      try simp only [World.size_drew] at cb fb sb
      try simp only [World.size_setCell] at cb fb sb
      have zb0 : w.heap.size < wb.heap.size := by omega
      have yb0 : w.heap.size ≤ wb.heap.size := by omega
      have zb1 : w.heap.size + 1 < wb.heap.size := by omega
      go_wp2_with fail
      refine (server_yes s _ _ k1.out).mono ?_
      rintro e wd ⟨rfl, gd⟩
      obtain ⟨cd, fd, sd⟩ := gd.cells
      try simp only [World.size_alloc] at cd fd sd
      try simp only [World.size_drew] at cd fd sd
      try simp only [World.size_setCell] at cd fd sd
      have zd0 : w.heap.size < wd.heap.size := by omega
      have yd0 : w.heap.size ≤ wd.heap.size := by omega
      have zd1 : w.heap.size + 1 < wd.heap.size := by omega
      go_wp2_with fail
      refine (sy.out _).mono ?_
      rintro e we ⟨rfl, ge⟩
      obtain ⟨ce, fe, se⟩ := ge.cells
      try simp only [World.size_alloc] at ce fe se
      try simp only [World.size_drew] at ce fe se
      try simp only [World.size_setCell] at ce fe se
      have ze0 : w.heap.size < we.heap.size := by omega
      have ye0 : w.heap.size ≤ we.heap.size := by omega
      have ze1 : w.heap.size + 1 < we.heap.size := by omega
      generalize askedI s (bits .and .i64 n 1073741823) = x at *
      go_wp2_with fail
      refine (rt.out _).mono ?_
      rintro e wf ⟨rfl, gf⟩
      obtain ⟨cf, ff, sf⟩ := gf.cells
      try simp only [World.size_alloc] at cf ff sf
      try simp only [World.size_drew] at cf ff sf
      try simp only [World.size_setCell] at cf ff sf
      have zf0 : w.heap.size < wf.heap.size := by omega
      have yf0 : w.heap.size ≤ wf.heap.size := by omega
      have zf1 : w.heap.size + 1 < wf.heap.size := by omega
      go_wp2_with fail
      refine (y1.out _).mono ?_
      rintro e wg ⟨rfl, gg⟩
      obtain ⟨cg, fg, sg⟩ := gg.cells
      try simp only [World.size_alloc] at cg fg sg
      try simp only [World.size_drew] at cg fg sg
      try simp only [World.size_setCell] at cg fg sg
      have zg0 : w.heap.size < wg.heap.size := by omega
      have yg0 : w.heap.size ≤ wg.heap.size := by omega
      have zg1 : w.heap.size + 1 < wg.heap.size := by omega
      go_wp2_with fail
      refine (y2.out _).mono ?_
      rintro e wh ⟨rfl, gh⟩
      obtain ⟨ch, fh, sh⟩ := gh.cells
      try simp only [World.size_alloc] at ch fh sh
      try simp only [World.size_drew] at ch fh sh
      try simp only [World.size_setCell] at ch fh sh
      have zh0 : w.heap.size < wh.heap.size := by omega
      have yh0 : w.heap.size ≤ wh.heap.size := by omega
      have zh1 : w.heap.size + 1 < wh.heap.size := by omega
      go_wp2_with fail
      refine (y3.out _).mono ?_
      rintro e wi ⟨rfl, gi⟩
      obtain ⟨ci, fi, si⟩ := gi.cells
      try simp only [World.size_alloc] at ci fi si
      try simp only [World.size_drew] at ci fi si
      try simp only [World.size_setCell] at ci fi si
      have zi0 : w.heap.size < wi.heap.size := by omega
      have yi0 : w.heap.size ≤ wi.heap.size := by omega
      have zi1 : w.heap.size + 1 < wi.heap.size := by omega
      generalize taskI t (bits .and .i64 n 1073741823 + t.d) = y at *
      go_wp2_with fail
      go_ret
      refine ⟨rfl, ?_⟩
      repeat (first | exact Gr.refl _ | apply Gr.alloc | apply Gr.drew | apply Gr.drewN | (refine Gr.setCell ?_ (by simp) _) | (refine Gr.trans ?_ (by assumption)))
end Go.Proofs.YtkfkfcfbcfcbkaaDoor
