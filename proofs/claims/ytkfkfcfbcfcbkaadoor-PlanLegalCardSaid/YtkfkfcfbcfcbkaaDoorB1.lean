/- The law PlanLegal, walked. -/
import Derived.Test.YtkfkfcfbcfcbkaaDoorA4
import Derived.Test.YtkfkfcfbcfcbkaaDoorA5
namespace Go.Proofs.YtkfkfcfbcfcbkaaDoor
open Go.RowKit

set_option maxHeartbeats 1600000 in
theorem planLegal_walk {G : List Nat} {E : Nat → Addr} (s : Srv) (p : Int) (a : Option Addr) (l : List Tsk) (c : Nat) (w : World) (hE : EAt G E w) (i0 : 0 ∈ G) (i1 : 1 ∈ G)
    (hl : TsksAt w a l) (hm : l.length * 32 ≤ 140737488351232) (hc : a = none → c = 0) :
    Calls Tryd.prog 4 #[.agg #[.int .i64 s.k, .int .i64 s.q, .int .i64 s.t], .int .i64 p, .slice a l.length c] w fun e w' => e = .returned (.bool true) ∧ Gr w w' := by
  obtain ⟨i72, hi, hz0, hz1, hz2⟩ := info_parts Tryd.infoTsk
  have hmm : l.length ≤ maxLen := by unfold maxLen; omega
  have n2 : l.length * 32 ≤ 140737488355328 := by omega
  have he0 := fun w => eql_same E 0 w
  have he1 := fun w => eql_same E 1 w
  have hE0 := hE.gr ((Gr.refl w).alloc (.cells #[.int .i64 s.k, .int .i64 s.q, .int .i64 s.t] 27))
  have hl0 := hl.gr ((Gr.refl w).alloc (.cells #[.int .i64 s.k, .int .i64 s.q, .int .i64 s.t] 27))
  have rl := rlegal_any s
  have rg := fun wx h => rlegalGuest_any p a l c wx h hmm
  cases hleg : s.leg
  · rw [hleg] at rl
    have rl := Lib.hid rl
    have hleg := Lib.hid hleg
    cases hg : guestOk p l
    · rw [hg] at rg
      have rg := Lib.hid rg
      have hg := Lib.hid hg
      go_enter Tryd.func4, Tryd.ntmps4
      go_wp2_with fail
      refine (alive08 _ hE0 i0).mono ?_
      rintro e wa ⟨rfl, ga⟩
      obtain ⟨ca, fa, sa⟩ := ga.cells
      try simp only [World.size_alloc] at ca fa sa
      try simp only [World.size_drew] at ca fa sa
      try simp only [World.size_setCell] at ca fa sa
      have za0 : w.heap.size < wa.heap.size := by omega
      have ya0 : w.heap.size ≤ wa.heap.size := by omega
      have ea := hE0.gr ga
      go_wp2_with fail
      refine (checkServer_no s.k s.q s.t _ ea i0 hleg.out).mono ?_
      rintro e wb ⟨rfl, gb⟩
      obtain ⟨cb, fb, sb⟩ := gb.cells
      try simp only [World.size_alloc] at cb fb sb
      try simp only [World.size_drew] at cb fb sb
      try simp only [World.size_setCell] at cb fb sb
      have zb0 : w.heap.size < wb.heap.size := by omega
      have yb0 : w.heap.size ≤ wb.heap.size := by omega
      have eb := ea.gr gb
      have lb := tsks_recs ((hl0.gr ga).gr gb)
      go_wp2_with (at_builtin; refine wpList_copy_recs (k := 4) (enc := Tsk.cells) rfl _ _ 29 rfl 72 i72 _ 32 Tryd.underlying29 hi hz0 hz1 hz2 rfl (by decide) Tsk.cells_len Tsk.cells_one rfl a c l rfl lb hc hmm n2 ?_; intro a' c' wc hr hn' _ gc)
      have ec := eb.gr gc
      obtain ⟨cc, fc, sc⟩ := gc.cells
      have zc : w.heap.size < wc.heap.size := by omega
      go_wp2_with fail
      refine (checkGuest_no p a' l c' _ ec i1 (recs_tsks hr) hmm hg.out).mono ?_
      rintro e wd ⟨rfl, gd⟩
      obtain ⟨cd, fd, sd⟩ := gd.cells
      try simp only [World.size_alloc] at cd fd sd
      try simp only [World.size_drew] at cd fd sd
      try simp only [World.size_setCell] at cd fd sd
      have zd0 : w.heap.size < wd.heap.size := by omega
      have yd0 : w.heap.size ≤ wd.heap.size := by omega
      have ed := ec.gr gd
      have ld := (((hl0.gr ga).gr gb).gr gc).gr gd
      have q0 := GrW.cell (w := wd) (b := w.heap.size) (o := 0) (v := .int .i64 s.k) (by simp (maxDischargeDepth := 8) [go_sem, *])
      have q1 := GrW.cell (w := wd) (b := w.heap.size) (o := 1) (v := .int .i64 s.q) (by simp (maxDischargeDepth := 8) [go_sem, *])
      have q2 := GrW.cell (w := wd) (b := w.heap.size) (o := 2) (v := .int .i64 s.t) (by simp (maxDischargeDepth := 8) [go_sem, *])
      have q3 := GrW.cell (ed.c0 i0)
      have q4 := GrW.cell (ed.c0 i1)
      go_wp2_with fail
      refine wp_region_grows (by kernel_rfl) (by kernel_rfl) ?_
      repeat (any_goals (first | go_big_quiet_step (first | (go_at_call 18; exact Calls.grows (rl.out _)) | (go_at_call 19; exact Calls.grows (rg.out _ (ld.gr (GrW.gr _))))) | quiet_step (first | (go_at_call 18; exact Calls.grows (rl.out _)) | (go_at_call 19; exact Calls.grows (rg.out _ (ld.gr (GrW.gr _)))))))
      refine wpQuiet_nil ?_
      intro wf hwq
      have gf := GrW.of hwq
      clear hwq
      obtain ⟨cf, ff, sf⟩ := gf.cells
      try simp only [World.size_alloc] at cf ff sf
      try simp only [World.size_drew] at cf ff sf
      try simp only [World.size_setCell] at cf ff sf
      have zf0 : w.heap.size < wf.heap.size := by omega
      have yf0 : w.heap.size ≤ wf.heap.size := by omega
      go_wp2
      go_ret
      refine ⟨rfl, ?_⟩
      repeat (first | exact Gr.refl _ | apply Gr.alloc | apply Gr.drew | (refine Gr.setCell ?_ (by simp) _) | (refine Gr.trans ?_ (by assumption)))
    · rw [hg] at rg
      have rg := Lib.hid rg
      have hg := Lib.hid hg
      go_enter Tryd.func4, Tryd.ntmps4
      go_wp2_with fail
      refine (alive08 _ hE0 i0).mono ?_
      rintro e wa ⟨rfl, ga⟩
      obtain ⟨ca, fa, sa⟩ := ga.cells
      try simp only [World.size_alloc] at ca fa sa
      try simp only [World.size_drew] at ca fa sa
      try simp only [World.size_setCell] at ca fa sa
      have za0 : w.heap.size < wa.heap.size := by omega
      have ya0 : w.heap.size ≤ wa.heap.size := by omega
      have ea := hE0.gr ga
      go_wp2_with fail
      refine (checkServer_no s.k s.q s.t _ ea i0 hleg.out).mono ?_
      rintro e wb ⟨rfl, gb⟩
      obtain ⟨cb, fb, sb⟩ := gb.cells
      try simp only [World.size_alloc] at cb fb sb
      try simp only [World.size_drew] at cb fb sb
      try simp only [World.size_setCell] at cb fb sb
      have zb0 : w.heap.size < wb.heap.size := by omega
      have yb0 : w.heap.size ≤ wb.heap.size := by omega
      have eb := ea.gr gb
      have lb := tsks_recs ((hl0.gr ga).gr gb)
      go_wp2_with (at_builtin; refine wpList_copy_recs (k := 4) (enc := Tsk.cells) rfl _ _ 29 rfl 72 i72 _ 32 Tryd.underlying29 hi hz0 hz1 hz2 rfl (by decide) Tsk.cells_len Tsk.cells_one rfl a c l rfl lb hc hmm n2 ?_; intro a' c' wc hr hn' _ gc)
      have ec := eb.gr gc
      obtain ⟨cc, fc, sc⟩ := gc.cells
      have zc : w.heap.size < wc.heap.size := by omega
      go_wp2_with fail
      refine (checkGuest_yes p a' l c' _ (recs_tsks hr) hg.out).mono ?_
      rintro e wd ⟨rfl, gd⟩
      obtain ⟨cd, fd, sd⟩ := gd.cells
      try simp only [World.size_alloc] at cd fd sd
      try simp only [World.size_drew] at cd fd sd
      try simp only [World.size_setCell] at cd fd sd
      have zd0 : w.heap.size < wd.heap.size := by omega
      have yd0 : w.heap.size ≤ wd.heap.size := by omega
      have ed := ec.gr gd
      have ld := (((hl0.gr ga).gr gb).gr gc).gr gd
      have q0 := GrW.cell (w := wd) (b := w.heap.size) (o := 0) (v := .int .i64 s.k) (by simp (maxDischargeDepth := 8) [go_sem, *])
      have q1 := GrW.cell (w := wd) (b := w.heap.size) (o := 1) (v := .int .i64 s.q) (by simp (maxDischargeDepth := 8) [go_sem, *])
      have q2 := GrW.cell (w := wd) (b := w.heap.size) (o := 2) (v := .int .i64 s.t) (by simp (maxDischargeDepth := 8) [go_sem, *])
      have q3 := GrW.cell (ed.c0 i0)
      go_wp2_with fail
      refine wp_region_grows (by kernel_rfl) (by kernel_rfl) ?_
      repeat (any_goals (first | go_big_quiet_step (first | (go_at_call 18; exact Calls.grows (rl.out _)) | (go_at_call 19; exact Calls.grows (rg.out _ (ld.gr (GrW.gr _))))) | quiet_step (first | (go_at_call 18; exact Calls.grows (rl.out _)) | (go_at_call 19; exact Calls.grows (rg.out _ (ld.gr (GrW.gr _)))))))
      refine wpQuiet_nil ?_
      intro wf hwq
      have gf := GrW.of hwq
      clear hwq
      obtain ⟨cf, ff, sf⟩ := gf.cells
      try simp only [World.size_alloc] at cf ff sf
      try simp only [World.size_drew] at cf ff sf
      try simp only [World.size_setCell] at cf ff sf
      have zf0 : w.heap.size < wf.heap.size := by omega
      have yf0 : w.heap.size ≤ wf.heap.size := by omega
      go_wp2
      go_ret
      refine ⟨rfl, ?_⟩
      repeat (first | exact Gr.refl _ | apply Gr.alloc | apply Gr.drew | (refine Gr.setCell ?_ (by simp) _) | (refine Gr.trans ?_ (by assumption)))
  · rw [hleg] at rl
    have rl := Lib.hid rl
    have hleg := Lib.hid hleg
    cases hg : guestOk p l
    · rw [hg] at rg
      have rg := Lib.hid rg
      have hg := Lib.hid hg
      go_enter Tryd.func4, Tryd.ntmps4
      go_wp2_with fail
      refine (alive08 _ hE0 i0).mono ?_
      rintro e wa ⟨rfl, ga⟩
      obtain ⟨ca, fa, sa⟩ := ga.cells
      try simp only [World.size_alloc] at ca fa sa
      try simp only [World.size_drew] at ca fa sa
      try simp only [World.size_setCell] at ca fa sa
      have za0 : w.heap.size < wa.heap.size := by omega
      have ya0 : w.heap.size ≤ wa.heap.size := by omega
      have ea := hE0.gr ga
      go_wp2_with fail
      refine (checkServer_yes s.k s.q s.t _ hleg.out).mono ?_
      rintro e wb ⟨rfl, gb⟩
      obtain ⟨cb, fb, sb⟩ := gb.cells
      try simp only [World.size_alloc] at cb fb sb
      try simp only [World.size_drew] at cb fb sb
      try simp only [World.size_setCell] at cb fb sb
      have zb0 : w.heap.size < wb.heap.size := by omega
      have yb0 : w.heap.size ≤ wb.heap.size := by omega
      have eb := ea.gr gb
      have lb := tsks_recs ((hl0.gr ga).gr gb)
      go_wp2_with (at_builtin; refine wpList_copy_recs (k := 4) (enc := Tsk.cells) rfl _ _ 29 rfl 72 i72 _ 32 Tryd.underlying29 hi hz0 hz1 hz2 rfl (by decide) Tsk.cells_len Tsk.cells_one rfl a c l rfl lb hc hmm n2 ?_; intro a' c' wc hr hn' _ gc)
      have ec := eb.gr gc
      obtain ⟨cc, fc, sc⟩ := gc.cells
      have zc : w.heap.size < wc.heap.size := by omega
      go_wp2_with fail
      refine (checkGuest_no p a' l c' _ ec i1 (recs_tsks hr) hmm hg.out).mono ?_
      rintro e wd ⟨rfl, gd⟩
      obtain ⟨cd, fd, sd⟩ := gd.cells
      try simp only [World.size_alloc] at cd fd sd
      try simp only [World.size_drew] at cd fd sd
      try simp only [World.size_setCell] at cd fd sd
      have zd0 : w.heap.size < wd.heap.size := by omega
      have yd0 : w.heap.size ≤ wd.heap.size := by omega
      have ed := ec.gr gd
      have ld := (((hl0.gr ga).gr gb).gr gc).gr gd
      have q0 := GrW.cell (w := wd) (b := w.heap.size) (o := 0) (v := .int .i64 s.k) (by simp (maxDischargeDepth := 8) [go_sem, *])
      have q1 := GrW.cell (w := wd) (b := w.heap.size) (o := 1) (v := .int .i64 s.q) (by simp (maxDischargeDepth := 8) [go_sem, *])
      have q2 := GrW.cell (w := wd) (b := w.heap.size) (o := 2) (v := .int .i64 s.t) (by simp (maxDischargeDepth := 8) [go_sem, *])
      have q4 := GrW.cell (ed.c0 i1)
      go_wp2_with fail
      refine wp_region_grows (by kernel_rfl) (by kernel_rfl) ?_
      repeat (any_goals (first | go_big_quiet_step (first | (go_at_call 18; exact Calls.grows (rl.out _)) | (go_at_call 19; exact Calls.grows (rg.out _ (ld.gr (GrW.gr _))))) | quiet_step (first | (go_at_call 18; exact Calls.grows (rl.out _)) | (go_at_call 19; exact Calls.grows (rg.out _ (ld.gr (GrW.gr _)))))))
      refine wpQuiet_nil ?_
      intro wf hwq
      have gf := GrW.of hwq
      clear hwq
      obtain ⟨cf, ff, sf⟩ := gf.cells
      try simp only [World.size_alloc] at cf ff sf
      try simp only [World.size_drew] at cf ff sf
      try simp only [World.size_setCell] at cf ff sf
      have zf0 : w.heap.size < wf.heap.size := by omega
      have yf0 : w.heap.size ≤ wf.heap.size := by omega
      go_wp2
      go_ret
      refine ⟨rfl, ?_⟩
      repeat (first | exact Gr.refl _ | apply Gr.alloc | apply Gr.drew | (refine Gr.setCell ?_ (by simp) _) | (refine Gr.trans ?_ (by assumption)))
    · rw [hg] at rg
      have rg := Lib.hid rg
      have hg := Lib.hid hg
      go_enter Tryd.func4, Tryd.ntmps4
      go_wp2_with fail
      refine (alive08 _ hE0 i0).mono ?_
      rintro e wa ⟨rfl, ga⟩
      obtain ⟨ca, fa, sa⟩ := ga.cells
      try simp only [World.size_alloc] at ca fa sa
      try simp only [World.size_drew] at ca fa sa
      try simp only [World.size_setCell] at ca fa sa
      have za0 : w.heap.size < wa.heap.size := by omega
      have ya0 : w.heap.size ≤ wa.heap.size := by omega
      have ea := hE0.gr ga
      go_wp2_with fail
      refine (checkServer_yes s.k s.q s.t _ hleg.out).mono ?_
      rintro e wb ⟨rfl, gb⟩
      obtain ⟨cb, fb, sb⟩ := gb.cells
      try simp only [World.size_alloc] at cb fb sb
      try simp only [World.size_drew] at cb fb sb
      try simp only [World.size_setCell] at cb fb sb
      have zb0 : w.heap.size < wb.heap.size := by omega
      have yb0 : w.heap.size ≤ wb.heap.size := by omega
      have eb := ea.gr gb
      have lb := tsks_recs ((hl0.gr ga).gr gb)
      go_wp2_with (at_builtin; refine wpList_copy_recs (k := 4) (enc := Tsk.cells) rfl _ _ 29 rfl 72 i72 _ 32 Tryd.underlying29 hi hz0 hz1 hz2 rfl (by decide) Tsk.cells_len Tsk.cells_one rfl a c l rfl lb hc hmm n2 ?_; intro a' c' wc hr hn' _ gc)
      have ec := eb.gr gc
      obtain ⟨cc, fc, sc⟩ := gc.cells
      have zc : w.heap.size < wc.heap.size := by omega
      go_wp2_with fail
      refine (checkGuest_yes p a' l c' _ (recs_tsks hr) hg.out).mono ?_
      rintro e wd ⟨rfl, gd⟩
      obtain ⟨cd, fd, sd⟩ := gd.cells
      try simp only [World.size_alloc] at cd fd sd
      try simp only [World.size_drew] at cd fd sd
      try simp only [World.size_setCell] at cd fd sd
      have zd0 : w.heap.size < wd.heap.size := by omega
      have yd0 : w.heap.size ≤ wd.heap.size := by omega
      have ed := ec.gr gd
      have ld := (((hl0.gr ga).gr gb).gr gc).gr gd
      have q0 := GrW.cell (w := wd) (b := w.heap.size) (o := 0) (v := .int .i64 s.k) (by simp (maxDischargeDepth := 8) [go_sem, *])
      have q1 := GrW.cell (w := wd) (b := w.heap.size) (o := 1) (v := .int .i64 s.q) (by simp (maxDischargeDepth := 8) [go_sem, *])
      have q2 := GrW.cell (w := wd) (b := w.heap.size) (o := 2) (v := .int .i64 s.t) (by simp (maxDischargeDepth := 8) [go_sem, *])
      go_wp2_with fail
      refine wp_region_grows (by kernel_rfl) (by kernel_rfl) ?_
      repeat (any_goals (first | go_big_quiet_step (first | (go_at_call 18; exact Calls.grows (rl.out _)) | (go_at_call 19; exact Calls.grows (rg.out _ (ld.gr (GrW.gr _))))) | quiet_step (first | (go_at_call 18; exact Calls.grows (rl.out _)) | (go_at_call 19; exact Calls.grows (rg.out _ (ld.gr (GrW.gr _)))))))
      refine wpQuiet_nil ?_
      intro wf hwq
      have gf := GrW.of hwq
      clear hwq
      obtain ⟨cf, ff, sf⟩ := gf.cells
      try simp only [World.size_alloc] at cf ff sf
      try simp only [World.size_drew] at cf ff sf
      try simp only [World.size_setCell] at cf ff sf
      have zf0 : w.heap.size < wf.heap.size := by omega
      have yf0 : w.heap.size ≤ wf.heap.size := by omega
      go_wp2
      go_ret
      refine ⟨rfl, ?_⟩
      repeat (first | exact Gr.refl _ | apply Gr.alloc | apply Gr.drew | (refine Gr.setCell ?_ (by simp) _) | (refine Gr.trans ?_ (by assumption)))
end Go.Proofs.YtkfkfcfbcfcbkaaDoor
