/- Law 12: alive; AdmitHalf's walk. -/
import Derived.Test.YtmookdgeblcjnaaDoorH6
import Derived.Test.YtmookdgeblcjnaaDoorN10
import Derived.Test.YtmookdgeblcjnaaDoorA5
import Derived.Test.YtmookdgeblcjnaaDoorH8
namespace Go.Proofs.YtmookdgeblcjnaaDoor
open Go.RowKit

theorem two_srvs (W : World) (x y : Srv) : SrvsAt (W.alloc (.cells #[.int .i64 x.k, .int .i64 x.q, .int .i64 x.t, .int .i64 y.k, .int .i64 y.q, .int .i64 y.t] 23)) (some ⟨W.heap.size, 0, none⟩) [x, y] :=
  recs_srvs (recs_alloc Srv.cells_len W [x, y] _ _ rfl)
theorem one_srv (W : World) (x : Srv) : SrvsAt (W.alloc (.cells #[.int .i64 x.k, .int .i64 x.q, .int .i64 x.t] 23)) (some ⟨W.heap.size, 0, none⟩) [x] :=
  recs_srvs (recs_alloc Srv.cells_len W [x] _ _ rfl)
theorem one_tsk (W : World) (x : Tsk) : TsksAt (W.alloc (.cells #[.int .i64 x.c, .int .i64 x.p, .int .i64 x.d, .int .i64 x.s] 56)) (some ⟨W.heap.size, 0, none⟩) [x] :=
  recs_tsks (recs_alloc Tsk.cells_len W [x] _ _ rfl)

set_option maxRecDepth 100000 in
set_option maxHeartbeats 1600000 in
theorem alive12_any {G : List Nat} {E : Nat → Addr} (w : World) (hE : EAt G E w) (i0 : 0 ∈ G) (i1 : 1 ∈ G) (i3 : 3 ∈ G) :
    Calls Tryd.prog 8 #[] w fun e w' => e = .returned (.bool true) ∧ Gr w w' := by
  have h1 : ∀ W, Gr w W → Calls Tryd.prog 10 #[.agg #[.int .i64 0, .int .i64 0, .int .i64 0], .slice (some ⟨W.heap.size, 0, none⟩) 2 2] (W.alloc (.cells #[.int .i64 1, .int .i64 1, .int .i64 2, .int .i64 1, .int .i64 1, .int .i64 3] 23)) fun e w' => e = .returned .nilIface ∧ Gr (W.alloc (.cells #[.int .i64 1, .int .i64 1, .int .i64 2, .int .i64 1, .int .i64 1, .int .i64 3] 23)) w' := fun W g => by
    have := kids_any wh (some ⟨W.heap.size, 0, none⟩) [⟨1, 1, 2⟩, ⟨1, 1, 3⟩] 2 _ (hE.gr (g.alloc _)) i0 i1 i3 (two_srvs W ⟨1, 1, 2⟩ ⟨1, 1, 3⟩) (by unfold maxLen; decide)
    rw [kids_al1] at this
    exact this
  have h2 : ∀ W, Gr w W → Calls Tryd.prog 10 #[.agg #[.int .i64 0, .int .i64 0, .int .i64 0], .slice (some ⟨W.heap.size, 0, none⟩) 2 2] (W.alloc (.cells #[.int .i64 1, .int .i64 1, .int .i64 2, .int .i64 2, .int .i64 1, .int .i64 2] 23)) fun e w' => e = .returned (Value.iface 146 (.pointer (some (E 1)))) ∧ Gr (W.alloc (.cells #[.int .i64 1, .int .i64 1, .int .i64 2, .int .i64 2, .int .i64 1, .int .i64 2] 23)) w' := fun W g => by
    have := kids_any wh (some ⟨W.heap.size, 0, none⟩) [⟨1, 1, 2⟩, ⟨2, 1, 2⟩] 2 _ (hE.gr (g.alloc _)) i0 i1 i3 (two_srvs W ⟨1, 1, 2⟩ ⟨2, 1, 2⟩) (by unfold maxLen; decide)
    rw [kids_al2] at this
    exact this
  have h3 : ∀ W, Gr w W → Calls Tryd.prog 20 #[.agg #[.int .i64 3, .int .i64 5, .int .i64 10], .slice (some ⟨W.heap.size, 0, none⟩) 1 1, .int .i64 0] (W.alloc (.cells #[.int .i64 1, .int .i64 20, .int .i64 20, .int .i64 1] 56)) fun e w' => e = .returned (.tuple #[.int .i64 11, .nilIface]) ∧ Gr (W.alloc (.cells #[.int .i64 1, .int .i64 20, .int .i64 20, .int .i64 1] 56)) w' := fun W g => by
    have := Response_yes ⟨3, 5, 10⟩ (some ⟨W.heap.size, 0, none⟩) [⟨1, 20, 20, 1⟩] 1 0 ⟨1, 20, 20, 1⟩ _ (hE.gr (g.alloc _)) i1 (by decide) (one_tsk W ⟨1, 20, 20, 1⟩) (by decide) rfl
    rw [show respI ⟨3, 5, 10⟩ [⟨1, 20, 20, 1⟩] ((0 : Nat) : Int) (Tsk.mk 1 20 20 1).d.toNat = 11 from resp_al] at this
    exact this
  have heq := fun w => eql_same E 1 w
  replace h1 := Lib.hid h1
  replace h2 := Lib.hid h2
  replace h3 := Lib.hid h3
  go_enter Tryd.func8, Tryd.ntmps8
  go_wp2_with fail
  refine (h1.out _ (Gr.refl _)).mono ?_
  rintro e wa ⟨rfl, ga⟩
  obtain ⟨ca, fa, sa⟩ := ga.cells
  try simp only [size_drewN] at ca fa sa
  try simp only [World.size_alloc] at ca fa sa
  try simp only [World.size_drew] at ca fa sa
  try simp only [World.size_setCell] at ca fa sa
  have gA : Gr w wa := ((Gr.refl w).alloc _).trans ga
  go_wp2_with fail
  go_wp2_with fail
  refine (h2.out _ gA).mono ?_
  rintro e wb ⟨rfl, gb⟩
  obtain ⟨cb, fb, sb⟩ := gb.cells
  try simp only [size_drewN] at cb fb sb
  try simp only [World.size_alloc] at cb fb sb
  try simp only [World.size_drew] at cb fb sb
  try simp only [World.size_setCell] at cb fb sb
  have gB : Gr w wb := (gA.alloc _).trans gb
  go_wp2_with fail
  go_wp2_with fail
  refine (h3.out _ gB).mono ?_
  rintro e wd ⟨rfl, gd⟩
  obtain ⟨cd, fd, sd⟩ := gd.cells
  try simp only [size_drewN] at cd fd sd
  try simp only [World.size_alloc] at cd fd sd
  try simp only [World.size_drew] at cd fd sd
  try simp only [World.size_setCell] at cd fd sd
  have gD : Gr w wd := (gB.alloc _).trans gd
  have he := (hE.gr gD).c0 i1
  go_wp2_with fail
  go_ret
  exact ⟨rfl, gD⟩
theorem rlegal10_any (s : Srv) (w : World) :
    Calls Tryd.prog 9 #[.agg #[.int .i64 s.k, .int .i64 s.q, .int .i64 s.t]] w fun e w' => e = .returned (.bool (parOk s)) ∧ Gr w w' := by
  have hs := fun w => srv_eql s ⟨0, 0, 0⟩ w
  dsimp only at hs
  rw [show decide (s.k = 0 ∧ s.q = 0 ∧ s.t = 0) = whole s from rfl] at hs
  have hl := rlegal_any s
  unfold parOk
  cases hw : whole s with
  | true =>
    rw [hw] at hs
    replace hw := Lib.hid hw
    replace hl := Lib.hid hl
    go_enter Tryd.func9, Tryd.ntmps9
    go_wp2_with fail
    go_ret
    exact ⟨rfl, (by repeat (first | exact Gr.refl _ | apply Gr.alloc | apply Gr.drew | apply Gr.drewN | (refine Gr.setCell ?_ (by first | (simp; done) | (simp; omega)) _) | (refine Gr.trans ?_ (by assumption))))⟩
  | false =>
    rw [hw] at hs
    rw [Bool.false_or]
    replace hw := Lib.hid hw
    replace hl := Lib.hid hl
    go_enter Tryd.func9, Tryd.ntmps9
    go_wp2_with fail
    refine (hl.out _).mono ?_
    rintro e wa ⟨rfl, ga⟩
    obtain ⟨ca, fa, sa⟩ := ga.cells
    try simp only [size_drewN] at ca fa sa
    try simp only [World.size_alloc] at ca fa sa
    try simp only [World.size_drew] at ca fa sa
    try simp only [World.size_setCell] at ca fa sa
    have za0 : w.heap.size < wa.heap.size := by omega
    have ya0 : w.heap.size ≤ wa.heap.size := by omega
    have ka0 := fun o => ca (w.heap.size) o (by omega)
    have ja0 := fun o => fa (w.heap.size) o (by omega)
    go_wp2_with fail
    go_ret
    exact ⟨rfl, (by repeat (first | exact Gr.refl _ | apply Gr.alloc | apply Gr.drew | apply Gr.drewN | (refine Gr.setCell ?_ (by first | (simp; done) | (simp; omega)) _) | (refine Gr.trans ?_ (by assumption))))⟩

set_option maxRecDepth 100000 in
set_option maxHeartbeats 1600000 in
theorem admitHalf_bad {G : List Nat} {E : Nat → Addr} (W : World) (hE : EAt G E W) (i0 : 0 ∈ G) (i1 : 1 ∈ G) (i3 : 3 ∈ G) (s : Srv) (a : Option Addr) (l : List Srv) (c : Nat) (n : Int) (hp : parOk s = false) :
    Calls Tryd.prog 3 #[.agg #[.int .i64 s.k, .int .i64 s.q, .int .i64 s.t], .slice a l.length c, .int .i64 n] W fun e w' => e = .returned (.bool true) ∧ Gr W w' := by
  have gw := (Gr.refl W).alloc (.cells #[.int .i64 s.k, .int .i64 s.q, .int .i64 s.t] 23)
  have hal := alive12_any _ (hE.gr gw) i0 i1 i3
  have hle := rlegal10_any s
  rw [hp] at hle
  have hki := fun w (g : Gr W w) => kids_par s a l c w (hE.gr g) i0 hp
  have heq := fun w => eql_same E 0 w
  replace hal := Lib.hid hal
  replace hle := Lib.hid hle
  replace hki := Lib.hid hki
  replace hp := Lib.hid hp
  go_enter Tryd.func3, Tryd.ntmps3
  go_wp2_with fail
  refine (hal.out).mono ?_
  rintro e w1 ⟨rfl, g1⟩
  obtain ⟨c1, f1, s1⟩ := g1.cells
  try simp only [size_drewN] at c1 f1 s1
  try simp only [World.size_alloc] at c1 f1 s1
  try simp only [World.size_drew] at c1 f1 s1
  try simp only [World.size_setCell] at c1 f1 s1
  have z10 : W.heap.size < w1.heap.size := by omega
  have y10 : W.heap.size ≤ w1.heap.size := by omega
  have k10 := fun o => c1 (W.heap.size) o (by omega)
  have j10 := fun o => f1 (W.heap.size) o (by omega)
  go_wp2_with fail
  refine (hle.out _).mono ?_
  rintro e w2 ⟨rfl, g2⟩
  obtain ⟨c2, f2, s2⟩ := g2.cells
  try simp only [size_drewN] at c2 f2 s2
  try simp only [World.size_alloc] at c2 f2 s2
  try simp only [World.size_drew] at c2 f2 s2
  try simp only [World.size_setCell] at c2 f2 s2
  have z20 : W.heap.size < w2.heap.size := by omega
  have y20 : W.heap.size ≤ w2.heap.size := by omega
  have k20 := fun o => c2 (W.heap.size) o (by omega)
  have j20 := fun o => f2 (W.heap.size) o (by omega)
  have gA : Gr W w2 := (gw.trans g1).trans g2
  have hBox := ((Blk.new W #[.int .i64 s.k, .int .i64 s.q, .int .i64 s.t] 23).gr g1).gr g2
  have q0 := GrW.cell (hBox.cell (i := 0) rfl)
  have q1 := GrW.cell (hBox.cell (i := 1) rfl)
  have q2 := GrW.cell (hBox.cell (i := 2) rfl)
  have q3 := GrW.cell ((hE.gr gA).c0 i0)
  clear hBox
  go_wp2_with fail
  refine wp_region_grows (by kernel_rfl) (by kernel_rfl) ?_
  repeat (any_goals (first | go_big_quiet_step (first | (exact Calls.grows (hki.out _ (gA.trans (by exact GrW.gr _))))) | quiet_step (first | (exact Calls.grows (hki.out _ (gA.trans (by exact GrW.gr _)))))))
  refine wpQuiet_nil ?_
  intro wp hwq
  have gp := GrW.of hwq
  clear hwq
  obtain ⟨cp, fp, sp⟩ := gp.cells
  try simp only [size_drewN] at cp fp sp
  try simp only [World.size_alloc] at cp fp sp
  try simp only [World.size_drew] at cp fp sp
  try simp only [World.size_setCell] at cp fp sp
  go_wp2_with fail
  go_ret
  exact ⟨rfl, gA.trans gp⟩

end Go.Proofs.YtmookdgeblcjnaaDoor
