/- The law PlanParts. -/
import Derived.Test.YtkfkfcfbcfcbkaaDoorA4
import Derived.Test.YtkfkfcfbcfcbkaaDoorA5
import Derived.Test.YtkfkfcfbcfcbkaaDoorA8
import Derived.Test.YtkfkfcfbcfcbkaaDoorD2
namespace Go.Proofs.YtkfkfcfbcfcbkaaDoor
open Go.RowKit

theorem share1 (s : Srv) : shareS [s] = (s.q, s.t) := by simp [shareS, plusP]
theorem share2 (s t : Srv) : shareS [s, t] = (s.q * t.t + s.t * t.q, s.t * t.t) := by simp [shareS, plusP]
theorem cmpI_same {a b : Int} (h : a = b) : cmpI a b = 0 := by unfold cmpI; rw [if_neg (by omega), if_neg (by omega)]
theorem cmpI_gt {a b : Int} (h : b < a) : cmpI a b = 1 := by unfold cmpI; rw [if_neg (by omega), if_pos h]
theorem cmpI_lt {a b : Int} (h : a < b) : cmpI a b = -1 := by unfold cmpI; rw [if_pos h]

set_option maxHeartbeats 1600000 in
theorem planParts_walk {G : List Nat} {E : Nat → Addr} (s t : Srv) (w : World) (hE : EAt G E w) (i0 : 0 ∈ G) :
    Calls Tryd.prog 10 #[.agg #[.int .i64 s.k, .int .i64 s.q, .int .i64 s.t], .agg #[.int .i64 t.k, .int .i64 t.q, .int .i64 t.t]] w fun e w' => e = .returned (.bool true) ∧ Gr w w' := by
  have rs := rlegal_any s
  have rt := rlegal_any t
  have hE := hE.gr (((Gr.refl w).alloc (.cells #[.int .i64 s.k, .int .i64 s.q, .int .i64 s.t] 27)).alloc (.cells #[.int .i64 t.k, .int .i64 t.q, .int .i64 t.t] 27))
  cases hs : s.leg
  · have n1 := fun (b : Nat) (w : World) hE hl => servers_no (G := G) (E := E) (some ⟨b, 0, none⟩) [s] 1 w hE i0 hl (by unfold maxLen; simp) (by simp [allLeg, hs])
    have n2 := fun (b : Nat) (w : World) hE hl => servers_no (G := G) (E := E) (some ⟨b, 0, none⟩) [s, t] 2 w hE i0 hl (by unfold maxLen; simp) (by simp [allLeg, hs])
    rw [hs] at rs
    replace rs := Lib.hid rs
    replace n1 := Lib.hid n1
    replace n2 := Lib.hid n2
    replace hs := Lib.hid hs
    go_enter Tryd.func10, Tryd.ntmps10
    go_wp2_with fail
    refine (alive08 _ hE i0).mono ?_
    rintro e wa ⟨rfl, ga⟩
    obtain ⟨ca, fa, sa⟩ := ga.cells
    try simp only [World.size_alloc] at ca fa sa
    try simp only [World.size_drew] at ca fa sa
    try simp only [World.size_setCell] at ca fa sa
    have za0 : w.heap.size < wa.heap.size := by omega
    have ya0 : w.heap.size ≤ wa.heap.size := by omega
    have ka0 := fun o => ca (w.heap.size) o (by omega)
    have ja0 := fun o => fa (w.heap.size) o (by omega)
    have za1 : w.heap.size + 1 < wa.heap.size := by omega
    have ka1 := fun o => ca (w.heap.size + 1) o (by omega)
    have ja1 := fun o => fa (w.heap.size + 1) o (by omega)
    have ea := hE.gr ga
    go_wp2_with fail
    refine (n1.out _ _ ?_ ?_).mono ?_
    · exact ea.gr ((Gr.refl _).alloc _)
    · exact srvsAt_one (by simp) (by simp [go_sem]) (by simp [go_sem]) (by simp [go_sem])
    rintro e wb ⟨rfl, gb⟩
    obtain ⟨cb, fb, sb⟩ := gb.cells
    try simp only [World.size_alloc] at cb fb sb
    try simp only [World.size_drew] at cb fb sb
    try simp only [World.size_setCell] at cb fb sb
    have zb0 : w.heap.size < wb.heap.size := by omega
    have yb0 : w.heap.size ≤ wb.heap.size := by omega
    have kb0 := fun o => cb (w.heap.size) o (by omega)
    have jb0 := fun o => fb (w.heap.size) o (by omega)
    have zb1 : w.heap.size + 1 < wb.heap.size := by omega
    have kb1 := fun o => cb (w.heap.size + 1) o (by omega)
    have jb1 := fun o => fb (w.heap.size + 1) o (by omega)
    have eb := (ea.gr ((Gr.refl wa).alloc (.cells #[.int .i64 s.k, .int .i64 s.q, .int .i64 s.t] 27))).gr gb
    go_wp2_with fail
    refine (n2.out _ _ ?_ ?_).mono ?_
    · exact eb.gr (((Gr.refl _).alloc _).alloc _)
    · exact srvsAt_two (by simp) (by simp [go_sem]) (by simp [go_sem]) (by simp [go_sem]) (by simp [go_sem]) (by simp [go_sem]) (by simp [go_sem])
    rintro e wc ⟨rfl, gc⟩
    obtain ⟨cc, fc, sc⟩ := gc.cells
    try simp only [World.size_alloc] at cc fc sc
    try simp only [World.size_drew] at cc fc sc
    try simp only [World.size_setCell] at cc fc sc
    have zc0 : w.heap.size < wc.heap.size := by omega
    have yc0 : w.heap.size ≤ wc.heap.size := by omega
    have kc0 := fun o => cc (w.heap.size) o (by omega)
    have jc0 := fun o => fc (w.heap.size) o (by omega)
    have zc1 : w.heap.size + 1 < wc.heap.size := by omega
    have kc1 := fun o => cc (w.heap.size + 1) o (by omega)
    have jc1 := fun o => fc (w.heap.size + 1) o (by omega)
    have zc2 : wb.heap.size < wc.heap.size := by omega
    have yc2 : wb.heap.size ≤ wc.heap.size := by omega
    have kc2 := fun o => cc (wb.heap.size) o (by omega)
    have jc2 := fun o => fc (wb.heap.size) o (by omega)
    go_wp2_with fail
    refine (rs.out _).mono ?_
    rintro e wd ⟨rfl, gd⟩
    obtain ⟨cd, fd, sd⟩ := gd.cells
    try simp only [World.size_alloc] at cd fd sd
    try simp only [World.size_drew] at cd fd sd
    try simp only [World.size_setCell] at cd fd sd
    have zd0 : w.heap.size < wd.heap.size := by omega
    have yd0 : w.heap.size ≤ wd.heap.size := by omega
    have kd0 := fun o => cd (w.heap.size) o (by omega)
    have jd0 := fun o => fd (w.heap.size) o (by omega)
    have zd1 : w.heap.size + 1 < wd.heap.size := by omega
    have kd1 := fun o => cd (w.heap.size + 1) o (by omega)
    have jd1 := fun o => fd (w.heap.size + 1) o (by omega)
    go_wp2_with fail
    go_ret
    refine ⟨retb (by first | rfl | simp), ?_⟩
    repeat (first | exact Gr.refl _ | apply Gr.alloc | apply Gr.drew | apply Gr.drewN | (refine Gr.setCell ?_ (by simp) _) | (refine Gr.trans ?_ (by assumption)))
  cases ht : t.leg
  · have n1 := fun (b : Nat) (w : World) hl => servers_yes (some ⟨b, 0, none⟩) [s] 1 w hl (by simp [allLeg, hs]) (by simp)
    have n2 := fun (b : Nat) (w : World) hE hl => servers_no (G := G) (E := E) (some ⟨b, 0, none⟩) [s, t] 2 w hE i0 hl (by unfold maxLen; simp) (by simp [allLeg, hs, ht])
    rw [share1] at n1
    rw [hs] at rs
    replace rs := Lib.hid rs
    rw [ht] at rt
    replace rt := Lib.hid rt
    replace n1 := Lib.hid n1
    replace n2 := Lib.hid n2
    replace hs := Lib.hid hs
    replace ht := Lib.hid ht
    go_enter Tryd.func10, Tryd.ntmps10
    go_wp2_with fail
    refine (alive08 _ hE i0).mono ?_
    rintro e wa ⟨rfl, ga⟩
    obtain ⟨ca, fa, sa⟩ := ga.cells
    try simp only [World.size_alloc] at ca fa sa
    try simp only [World.size_drew] at ca fa sa
    try simp only [World.size_setCell] at ca fa sa
    have za0 : w.heap.size < wa.heap.size := by omega
    have ya0 : w.heap.size ≤ wa.heap.size := by omega
    have ka0 := fun o => ca (w.heap.size) o (by omega)
    have ja0 := fun o => fa (w.heap.size) o (by omega)
    have za1 : w.heap.size + 1 < wa.heap.size := by omega
    have ka1 := fun o => ca (w.heap.size + 1) o (by omega)
    have ja1 := fun o => fa (w.heap.size + 1) o (by omega)
    have ea := hE.gr ga
    go_wp2_with fail
    refine (n1.out _ _ ?_).mono ?_
    · exact srvsAt_one (by simp) (by simp [go_sem]) (by simp [go_sem]) (by simp [go_sem])
    rintro e wb ⟨rfl, gb⟩
    obtain ⟨cb, fb, sb⟩ := gb.cells
    try simp only [World.size_alloc] at cb fb sb
    try simp only [World.size_drew] at cb fb sb
    try simp only [World.size_setCell] at cb fb sb
    have zb0 : w.heap.size < wb.heap.size := by omega
    have yb0 : w.heap.size ≤ wb.heap.size := by omega
    have kb0 := fun o => cb (w.heap.size) o (by omega)
    have jb0 := fun o => fb (w.heap.size) o (by omega)
    have zb1 : w.heap.size + 1 < wb.heap.size := by omega
    have kb1 := fun o => cb (w.heap.size + 1) o (by omega)
    have jb1 := fun o => fb (w.heap.size + 1) o (by omega)
    have eb := (ea.gr ((Gr.refl wa).alloc (.cells #[.int .i64 s.k, .int .i64 s.q, .int .i64 s.t] 27))).gr gb
    go_wp2_with fail
    refine (n2.out _ _ ?_ ?_).mono ?_
    · exact eb.gr (((Gr.refl _).alloc _).alloc _)
    · exact srvsAt_two (by simp) (by simp [go_sem]) (by simp [go_sem]) (by simp [go_sem]) (by simp [go_sem]) (by simp [go_sem]) (by simp [go_sem])
    rintro e wc ⟨rfl, gc⟩
    obtain ⟨cc, fc, sc⟩ := gc.cells
    try simp only [World.size_alloc] at cc fc sc
    try simp only [World.size_drew] at cc fc sc
    try simp only [World.size_setCell] at cc fc sc
    have zc0 : w.heap.size < wc.heap.size := by omega
    have yc0 : w.heap.size ≤ wc.heap.size := by omega
    have kc0 := fun o => cc (w.heap.size) o (by omega)
    have jc0 := fun o => fc (w.heap.size) o (by omega)
    have zc1 : w.heap.size + 1 < wc.heap.size := by omega
    have kc1 := fun o => cc (w.heap.size + 1) o (by omega)
    have jc1 := fun o => fc (w.heap.size + 1) o (by omega)
    have zc2 : wb.heap.size < wc.heap.size := by omega
    have yc2 : wb.heap.size ≤ wc.heap.size := by omega
    have kc2 := fun o => cc (wb.heap.size) o (by omega)
    have jc2 := fun o => fc (wb.heap.size) o (by omega)
    go_wp2_with fail
    refine (rs.out _).mono ?_
    rintro e wd ⟨rfl, gd⟩
    obtain ⟨cd, fd, sd⟩ := gd.cells
    try simp only [World.size_alloc] at cd fd sd
    try simp only [World.size_drew] at cd fd sd
    try simp only [World.size_setCell] at cd fd sd
    have zd0 : w.heap.size < wd.heap.size := by omega
    have yd0 : w.heap.size ≤ wd.heap.size := by omega
    have kd0 := fun o => cd (w.heap.size) o (by omega)
    have jd0 := fun o => fd (w.heap.size) o (by omega)
    have zd1 : w.heap.size + 1 < wd.heap.size := by omega
    have kd1 := fun o => cd (w.heap.size + 1) o (by omega)
    have jd1 := fun o => fd (w.heap.size + 1) o (by omega)
    go_wp2_with fail
    refine (rt.out _).mono ?_
    rintro e wf ⟨rfl, gf⟩
    obtain ⟨cf, ff, sf⟩ := gf.cells
    try simp only [World.size_alloc] at cf ff sf
    try simp only [World.size_drew] at cf ff sf
    try simp only [World.size_setCell] at cf ff sf
    have zf0 : w.heap.size < wf.heap.size := by omega
    have yf0 : w.heap.size ≤ wf.heap.size := by omega
    have kf0 := fun o => cf (w.heap.size) o (by omega)
    have jf0 := fun o => ff (w.heap.size) o (by omega)
    have zf1 : w.heap.size + 1 < wf.heap.size := by omega
    have kf1 := fun o => cf (w.heap.size + 1) o (by omega)
    have jf1 := fun o => ff (w.heap.size + 1) o (by omega)
    go_wp2_with fail
    go_ret
    refine ⟨retb (by first | rfl | simp), ?_⟩
    repeat (first | exact Gr.refl _ | apply Gr.alloc | apply Gr.drew | apply Gr.drewN | (refine Gr.setCell ?_ (by simp) _) | (refine Gr.trans ?_ (by assumption)))
  · have n1 := fun (b : Nat) (w : World) hl => servers_yes (some ⟨b, 0, none⟩) [s] 1 w hl (by simp [allLeg, hs]) (by simp)
    have n2 := fun (b : Nat) (w : World) hl => servers_yes (some ⟨b, 0, none⟩) [s, t] 2 w hl (by simp [allLeg, hs, ht]) (by simp)
    rw [share1] at n1
    have sh1 : Shr (s.q, s.t) := by have := shr_share (l := [s]) (by simp [allLeg, hs]) (by simp); rwa [share1] at this
    have sh2 : Shr (s.q * t.t + s.t * t.q, s.t * t.t) := by have := shr_share (l := [s, t]) (by simp [allLeg, hs, ht]) (by simp); rwa [share2] at this
    rw [share2] at n2
    obtain ⟨a1, a2, a3, a4, a5⟩ := (Srv.leg_iff _).1 hs
    obtain ⟨b1, b2, b3, b4, b5⟩ := (Srv.leg_iff _).1 ht
    have x1 : cmpI (s.q * s.t) (s.t * s.q) = 0 := cmpI_same (Int.mul_comm _ _)
    have p1 : 0 < s.t * t.q * s.t := Int.mul_pos (Int.mul_pos (by omega) (by omega)) (by omega)
    have p2 : 0 < s.q * t.t * t.t := Int.mul_pos (Int.mul_pos (by omega) (by omega)) (by omega)
    have q1 : s.q * t.t * s.t = s.t * t.t * s.q := by rw [Int.mul_comm (s.q * t.t), Int.mul_comm s.q, ← Int.mul_assoc]
    have q2 : s.t * t.q * t.t = s.t * t.t * t.q := by rw [Int.mul_assoc, Int.mul_comm t.q, ← Int.mul_assoc]
    have x2 : cmpI ((s.q * t.t + s.t * t.q) * s.t) (s.t * t.t * s.q) = 1 := cmpI_gt (by rw [Int.add_mul]; omega)
    have x3 : cmpI ((s.q * t.t + s.t * t.q) * t.t) (s.t * t.t * t.q) = 1 := cmpI_gt (by rw [Int.add_mul]; omega)
    clear p1 p2 q1 q2
    have u1 := fun w => within_leg (s.q, s.t) s w sh1 hs
    have u2 := fun w => within_leg (s.q * t.t + s.t * t.q, s.t * t.t) s w sh2 hs
    have u3 := fun w => within_leg (s.q * t.t + s.t * t.q, s.t * t.t) t w sh2 ht
    have u4 := fun w => within_whole (s.q, s.t) w sh1
    have u5 := fun w => cross_yes s.q s.t 1 1 w (by omega) (by omega) (by omega) (by omega) (by decide) (by decide) (by decide) (by decide)
    dsimp only at u1 u2 u3 u4
    rw [x1] at u1
    rw [x2] at u2
    rw [x3] at u3
    rw [Int.mul_one, Int.mul_one] at u5
    replace u1 := Lib.hid u1
    replace u2 := Lib.hid u2
    replace u3 := Lib.hid u3
    replace u4 := Lib.hid u4
    replace u5 := Lib.hid u5
    clear x1 x2 x3 rs rt
    replace n1 := Lib.hid n1
    replace n2 := Lib.hid n2
    replace hs := Lib.hid hs
    replace ht := Lib.hid ht
    go_enter Tryd.func10, Tryd.ntmps10
    go_wp2_with fail
    refine (alive08 _ hE i0).mono ?_
    rintro e wa ⟨rfl, ga⟩
    obtain ⟨ca, fa, sa⟩ := ga.cells
    try simp only [World.size_alloc] at ca fa sa
    try simp only [World.size_drew] at ca fa sa
    try simp only [World.size_setCell] at ca fa sa
    have za0 : w.heap.size < wa.heap.size := by omega
    have ya0 : w.heap.size ≤ wa.heap.size := by omega
    have ka0 := fun o => ca (w.heap.size) o (by omega)
    have ja0 := fun o => fa (w.heap.size) o (by omega)
    have za1 : w.heap.size + 1 < wa.heap.size := by omega
    have ka1 := fun o => ca (w.heap.size + 1) o (by omega)
    have ja1 := fun o => fa (w.heap.size + 1) o (by omega)
    have ea := hE.gr ga
    go_wp2_with fail
    refine (n1.out _ _ ?_).mono ?_
    · exact srvsAt_one (by simp) (by simp [go_sem]) (by simp [go_sem]) (by simp [go_sem])
    rintro e wb ⟨rfl, gb⟩
    obtain ⟨cb, fb, sb⟩ := gb.cells
    try simp only [World.size_alloc] at cb fb sb
    try simp only [World.size_drew] at cb fb sb
    try simp only [World.size_setCell] at cb fb sb
    have zb0 : w.heap.size < wb.heap.size := by omega
    have yb0 : w.heap.size ≤ wb.heap.size := by omega
    have kb0 := fun o => cb (w.heap.size) o (by omega)
    have jb0 := fun o => fb (w.heap.size) o (by omega)
    have zb1 : w.heap.size + 1 < wb.heap.size := by omega
    have kb1 := fun o => cb (w.heap.size + 1) o (by omega)
    have jb1 := fun o => fb (w.heap.size + 1) o (by omega)
    have eb := (ea.gr ((Gr.refl wa).alloc (.cells #[.int .i64 s.k, .int .i64 s.q, .int .i64 s.t] 27))).gr gb
    go_wp2_with fail
    refine (n2.out _ _ ?_).mono ?_
    · exact srvsAt_two (by simp) (by simp [go_sem]) (by simp [go_sem]) (by simp [go_sem]) (by simp [go_sem]) (by simp [go_sem]) (by simp [go_sem])
    rintro e wc ⟨rfl, gc⟩
    obtain ⟨cc, fc, sc⟩ := gc.cells
    try simp only [World.size_alloc] at cc fc sc
    try simp only [World.size_drew] at cc fc sc
    try simp only [World.size_setCell] at cc fc sc
    have zc0 : w.heap.size < wc.heap.size := by omega
    have yc0 : w.heap.size ≤ wc.heap.size := by omega
    have kc0 := fun o => cc (w.heap.size) o (by omega)
    have jc0 := fun o => fc (w.heap.size) o (by omega)
    have zc1 : w.heap.size + 1 < wc.heap.size := by omega
    have kc1 := fun o => cc (w.heap.size + 1) o (by omega)
    have jc1 := fun o => fc (w.heap.size + 1) o (by omega)
    have zc2 : wb.heap.size < wc.heap.size := by omega
    have yc2 : wb.heap.size ≤ wc.heap.size := by omega
    have kc2 := fun o => cc (wb.heap.size) o (by omega)
    have jc2 := fun o => fc (wb.heap.size) o (by omega)
    go_wp2_with fail
    refine (u1.out _).mono ?_
    rintro e wd ⟨rfl, gd⟩
    obtain ⟨cd, fd, sd⟩ := gd.cells
    try simp only [World.size_alloc] at cd fd sd
    try simp only [World.size_drew] at cd fd sd
    try simp only [World.size_setCell] at cd fd sd
    have zd0 : w.heap.size < wd.heap.size := by omega
    have yd0 : w.heap.size ≤ wd.heap.size := by omega
    have kd0 := fun o => cd (w.heap.size) o (by omega)
    have jd0 := fun o => fd (w.heap.size) o (by omega)
    have zd1 : w.heap.size + 1 < wd.heap.size := by omega
    have kd1 := fun o => cd (w.heap.size + 1) o (by omega)
    have jd1 := fun o => fd (w.heap.size + 1) o (by omega)
    have zd2 : wb.heap.size < wd.heap.size := by omega
    have yd2 : wb.heap.size ≤ wd.heap.size := by omega
    have kd2 := fun o => cd (wb.heap.size) o (by omega)
    have jd2 := fun o => fd (wb.heap.size) o (by omega)
    have zd3 : wc.heap.size < wd.heap.size := by omega
    have yd3 : wc.heap.size ≤ wd.heap.size := by omega
    have kd3 := fun o => cd (wc.heap.size) o (by omega)
    have jd3 := fun o => fd (wc.heap.size) o (by omega)
    go_wp2_with fail
    refine (u2.out _).mono ?_
    rintro e wf ⟨rfl, gf⟩
    obtain ⟨cf, ff, sf⟩ := gf.cells
    try simp only [World.size_alloc] at cf ff sf
    try simp only [World.size_drew] at cf ff sf
    try simp only [World.size_setCell] at cf ff sf
    have zf0 : w.heap.size < wf.heap.size := by omega
    have yf0 : w.heap.size ≤ wf.heap.size := by omega
    have kf0 := fun o => cf (w.heap.size) o (by omega)
    have jf0 := fun o => ff (w.heap.size) o (by omega)
    have zf1 : w.heap.size + 1 < wf.heap.size := by omega
    have kf1 := fun o => cf (w.heap.size + 1) o (by omega)
    have jf1 := fun o => ff (w.heap.size + 1) o (by omega)
    have zf2 : wb.heap.size < wf.heap.size := by omega
    have yf2 : wb.heap.size ≤ wf.heap.size := by omega
    have kf2 := fun o => cf (wb.heap.size) o (by omega)
    have jf2 := fun o => ff (wb.heap.size) o (by omega)
    have zf3 : wc.heap.size < wf.heap.size := by omega
    have yf3 : wc.heap.size ≤ wf.heap.size := by omega
    have kf3 := fun o => cf (wc.heap.size) o (by omega)
    have jf3 := fun o => ff (wc.heap.size) o (by omega)
    go_wp2_with fail
    refine (u3.out _).mono ?_
    rintro e wg ⟨rfl, gg⟩
    obtain ⟨cg, fg, sg⟩ := gg.cells
    try simp only [World.size_alloc] at cg fg sg
    try simp only [World.size_drew] at cg fg sg
    try simp only [World.size_setCell] at cg fg sg
    have zg0 : w.heap.size < wg.heap.size := by omega
    have yg0 : w.heap.size ≤ wg.heap.size := by omega
    have kg0 := fun o => cg (w.heap.size) o (by omega)
    have jg0 := fun o => fg (w.heap.size) o (by omega)
    have zg1 : w.heap.size + 1 < wg.heap.size := by omega
    have kg1 := fun o => cg (w.heap.size + 1) o (by omega)
    have jg1 := fun o => fg (w.heap.size + 1) o (by omega)
    have zg2 : wb.heap.size < wg.heap.size := by omega
    have yg2 : wb.heap.size ≤ wg.heap.size := by omega
    have kg2 := fun o => cg (wb.heap.size) o (by omega)
    have jg2 := fun o => fg (wb.heap.size) o (by omega)
    have zg3 : wc.heap.size < wg.heap.size := by omega
    have yg3 : wc.heap.size ≤ wg.heap.size := by omega
    have kg3 := fun o => cg (wc.heap.size) o (by omega)
    have jg3 := fun o => fg (wc.heap.size) o (by omega)
    go_wp2_with fail
    refine (u4.out _).mono ?_
    rintro e wh ⟨rfl, gh⟩
    obtain ⟨ch, fh, sh⟩ := gh.cells
    try simp only [World.size_alloc] at ch fh sh
    try simp only [World.size_drew] at ch fh sh
    try simp only [World.size_setCell] at ch fh sh
    have zh0 : w.heap.size < wh.heap.size := by omega
    have yh0 : w.heap.size ≤ wh.heap.size := by omega
    have kh0 := fun o => ch (w.heap.size) o (by omega)
    have jh0 := fun o => fh (w.heap.size) o (by omega)
    have zh1 : w.heap.size + 1 < wh.heap.size := by omega
    have kh1 := fun o => ch (w.heap.size + 1) o (by omega)
    have jh1 := fun o => fh (w.heap.size + 1) o (by omega)
    have zh2 : wb.heap.size < wh.heap.size := by omega
    have yh2 : wb.heap.size ≤ wh.heap.size := by omega
    have kh2 := fun o => ch (wb.heap.size) o (by omega)
    have jh2 := fun o => fh (wb.heap.size) o (by omega)
    have zh3 : wc.heap.size < wh.heap.size := by omega
    have yh3 : wc.heap.size ≤ wh.heap.size := by omega
    have kh3 := fun o => ch (wc.heap.size) o (by omega)
    have jh3 := fun o => fh (wc.heap.size) o (by omega)
    go_wp2_with fail
    refine (u5.out _).mono ?_
    rintro e wi ⟨rfl, gi⟩
    obtain ⟨ci, fi, si⟩ := gi.cells
    try simp only [World.size_alloc] at ci fi si
    try simp only [World.size_drew] at ci fi si
    try simp only [World.size_setCell] at ci fi si
    have zi0 : w.heap.size < wi.heap.size := by omega
    have yi0 : w.heap.size ≤ wi.heap.size := by omega
    have ki0 := fun o => ci (w.heap.size) o (by omega)
    have ji0 := fun o => fi (w.heap.size) o (by omega)
    have zi1 : w.heap.size + 1 < wi.heap.size := by omega
    have ki1 := fun o => ci (w.heap.size + 1) o (by omega)
    have ji1 := fun o => fi (w.heap.size + 1) o (by omega)
    have zi2 : wb.heap.size < wi.heap.size := by omega
    have yi2 : wb.heap.size ≤ wi.heap.size := by omega
    have ki2 := fun o => ci (wb.heap.size) o (by omega)
    have ji2 := fun o => fi (wb.heap.size) o (by omega)
    have zi3 : wc.heap.size < wi.heap.size := by omega
    have yi3 : wc.heap.size ≤ wi.heap.size := by omega
    have ki3 := fun o => ci (wc.heap.size) o (by omega)
    have ji3 := fun o => fi (wc.heap.size) o (by omega)
    go_wp2_with fail
    go_ret
    refine ⟨retb (by first | rfl | simp), ?_⟩
    repeat (first | exact Gr.refl _ | apply Gr.alloc | apply Gr.drew | apply Gr.drewN | (refine Gr.setCell ?_ (by simp) _) | (refine Gr.trans ?_ (by assumption)))
end Go.Proofs.YtkfkfcfbcfcbkaaDoor
