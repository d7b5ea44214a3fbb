/- The reference's round: Begin, Ledger, New. -/
import Derived.Test.YtblfljpmkgmjaaaDoorQ8
namespace Go.Proofs.YtblfljpmkgmjaaaDoor
open Go.RowKit
variable {K0 : Nat → Prop}

theorem RnAt.bal {w : World} {mb : Nat} {M : RnM} (h : RnAt K0 w mb M) (b : Bal) : RnAt K0 ((w.setCell ⟨mb, 12, none⟩ (.int .i64 b.r)).setCell ⟨mb, 13, none⟩ (.int .i64 b.n)) mb {M with bal := b} :=
  (h.set (M' := {M with bal := ⟨b.r, M.bal.n⟩}) 12 (.int .i64 b.r) rfl rfl rfl rfl rfl rfl rfl rfl rfl).set (M' := {M with bal := b}) 13 (.int .i64 b.n) rfl rfl rfl rfl rfl rfl rfl rfl rfl
theorem RnAt.begun {w : World} {mb : Nat} {M : RnM} (h : RnAt K0 w mb M) (n : Int) : RnAt K0 (w.setCell ⟨mb, 19, none⟩ (.int .i64 n)) mb {M with begun := n} := h.set 19 _ rfl rfl rfl rfl rfl rfl rfl rfl rfl
set_option maxRecDepth 100000 in
set_option maxHeartbeats 1600000 in
theorem rbegin_st (M : RnM) (b : Bal) (w : World) (mb : Nat) (h : RnAt K0 w mb M) (hs : 2 < M.st) :
    Calls Tryd.prog 60 #[.pointer (some ⟨mb, 0, none⟩), .agg #[.int .i64 b.r, .int .i64 b.n]] w fun e w' => e = .returned (.int .i64 16) ∧ Gr w w' := by
  have g1 : Gr w (w.alloc (.cells #[.int .i64 b.r, .int .i64 b.n] 39)) := (Gr.refl w).alloc _
  have c14 := (h.gr g1).o.cell (i := 14) (v := .int .i64 M.st) rfl
  replace g1 := Lib.hid g1
  clear h
  go_enter Tryd.func60, Tryd.ntmps60
  go_wp2_with fail
  go_ret
  exact ⟨rfl, g1.out⟩
set_option maxRecDepth 100000 in
set_option maxHeartbeats 1600000 in
theorem rbegin_no (M : RnM) (b : Bal) (w : World) (mb : Nat) (h : RnAt K0 w mb M) (hs : ¬ 2 < M.st) (hno : balB b = false ∨ aboveB b M.bal = false) :
    Calls Tryd.prog 60 #[.pointer (some ⟨mb, 0, none⟩), .agg #[.int .i64 b.r, .int .i64 b.n]] w fun e w' => e = .returned (.int .i64 15) ∧ Gr w w' := by
  obtain ⟨W, hW⟩ : ∃ W, W = w.alloc (.cells #[.int .i64 b.r, .int .i64 b.n] 39) := ⟨_, rfl⟩
  have g1 : Gr w W := by rw [hW]; exact (Gr.refl w).alloc _
  have hB : Blk W w.heap.size #[.int .i64 b.r, .int .i64 b.n] 39 := by rw [hW]; exact Blk.new w _ _
  have h1 := h.gr g1
  have c14 := h1.o.cell (i := 14) (v := .int .i64 M.st) rfl
  have x0 := GrW.cell (hB.cell (i := 0) (v := .int .i64 b.r) rfl)
  have x1 := GrW.cell (hB.cell (i := 1) (v := .int .i64 b.n) rfl)
  have c12 := GrW.cell (h1.o.cell (i := 12) (v := .int .i64 M.bal.r) rfl)
  have c13 := GrW.cell (h1.o.cell (i := 13) (v := .int .i64 M.bal.n) rfl)
  have hlg := fun x : GrW W => rlegal18_any b x.to
  have hab := fun x : GrW W => rabove_any b M.bal x.to
  replace g1 := Lib.hid g1
  replace hB := Lib.hid hB
  replace h1 := Lib.hid h1
  clear h
  cases q1 : balB b with
  | false =>
    rw [q1] at hlg
    replace hlg := Lib.hid hlg
    replace hab := Lib.hid hab
    replace hno := Lib.hid hno
    replace hW := Lib.hid hW
    go_enter Tryd.func60, Tryd.ntmps60
    go_upto_region 1 with fail
    rw [← hW.out]
    go_upto_region 3 with fail
    refine wp_region_grows (by kernel_rfl) (by kernel_rfl) ?_
    repeat (any_goals (first | go_big_quiet_step (first | (exact Calls.grows (hlg.out _)) | fail) | quiet_step (first | (exact Calls.grows (hlg.out _)) | fail)))
    refine wpQuiet_nil ?_
    intro wz hwq
    have gz := GrW.of hwq
    clear hwq
    obtain ⟨cz, fz, sz⟩ := gz.cells
    try simp only [size_drewN] at cz fz sz
    try simp only [World.size_alloc] at cz fz sz
    try simp only [World.size_drew] at cz fz sz
    try simp only [World.size_setCell] at cz fz sz
    go_wp2_with fail
    go_ret
    exact ⟨rfl, g1.out.trans gz⟩
  | true =>
    have q2 : aboveB b M.bal = false := by rcases hno with h | h; rw [q1] at h; cases h; exact h
    rw [q1] at hlg
    rw [q2] at hab
    replace hlg := Lib.hid hlg
    replace hab := Lib.hid hab
    replace hno := Lib.hid hno
    replace hW := Lib.hid hW
    go_enter Tryd.func60, Tryd.ntmps60
    go_upto_region 1 with fail
    rw [← hW.out]
    go_upto_region 3 with fail
    refine wp_region_grows (by kernel_rfl) (by kernel_rfl) ?_
    repeat (any_goals (first | go_big_quiet_step (first | (exact Calls.grows (hlg.out _)) | (exact Calls.grows (hab.out _)) | fail) | quiet_step (first | (exact Calls.grows (hlg.out _)) | (exact Calls.grows (hab.out _)) | fail)))
    refine wpQuiet_nil ?_
    intro wz hwq
    have gz := GrW.of hwq
    clear hwq
    obtain ⟨cz, fz, sz⟩ := gz.cells
    try simp only [size_drewN] at cz fz sz
    try simp only [World.size_alloc] at cz fz sz
    try simp only [World.size_drew] at cz fz sz
    try simp only [World.size_setCell] at cz fz sz
    go_wp2_with fail
    go_ret
    exact ⟨rfl, g1.out.trans gz⟩
set_option maxRecDepth 100000 in
set_option maxHeartbeats 3200000 in
theorem rbegin_ok (M : RnM) (b : Bal) (w : World) (mb : Nat) (h : RnAt K0 w mb M) (hs : ¬ 2 < M.st) (hb : balB b = true) (ha : aboveB b M.bal = true) (hn0 : 0 ≤ M.begun) (hn1 : M.begun < 4611686018427387904) :
    Calls Tryd.prog 60 #[.pointer (some ⟨mb, 0, none⟩), .agg #[.int .i64 b.r, .int .i64 b.n]] w (RnP K0 mb (M.own mb) (.int .i64 0) (M.v.begin b) w) := by
  obtain ⟨W, hW⟩ : ∃ W, W = w.alloc (.cells #[.int .i64 b.r, .int .i64 b.n] 39) := ⟨_, rfl⟩
  have g1 : Gr w W := by rw [hW]; exact (Gr.refl w).alloc _
  have hB : Blk W w.heap.size #[.int .i64 b.r, .int .i64 b.n] 39 := by rw [hW]; exact Blk.new w _ _
  have h1 := h.gr g1
  have c14 := h1.o.cell (i := 14) (v := .int .i64 M.st) rfl
  have x0 := GrW.cell (hB.cell (i := 0) (v := .int .i64 b.r) rfl)
  have x1 := GrW.cell (hB.cell (i := 1) (v := .int .i64 b.n) rfl)
  have c12 := GrW.cell (h1.o.cell (i := 12) (v := .int .i64 M.bal.r) rfl)
  have c13 := GrW.cell (h1.o.cell (i := 13) (v := .int .i64 M.bal.n) rfl)
  have hlg := fun x : GrW W => rlegal18_any b x.to
  have hab := fun x : GrW W => rabove_any b M.bal x.to
  have hwr : IntKind.i64.wrap (M.begun + 1) = M.begun + 1 := by rw [IntKind.wrap_i64]; omega
  rw [hb] at hlg
  rw [ha] at hab
  replace g1 := Lib.hid g1
  replace hB := Lib.hid hB
  replace h1 := Lib.hid h1
  replace hlg := Lib.hid hlg
  replace hab := Lib.hid hab
  replace hW := Lib.hid hW
  clear h hb ha
  go_enter Tryd.func60, Tryd.ntmps60
  go_upto_region 1 with fail
  rw [← hW.out]
  go_upto_region 3 with fail
  refine wp_region_grows (by kernel_rfl) (by kernel_rfl) ?_
  repeat (any_goals (first | go_big_quiet_step (first | (exact Calls.grows (hlg.out _)) | (exact Calls.grows (hab.out _)) | fail) | quiet_step (first | (exact Calls.grows (hlg.out _)) | (exact Calls.grows (hab.out _)) | fail)))
  refine wpQuiet_nil ?_
  intro wz hwq
  have gz := GrW.of hwq
  clear hwq
  obtain ⟨cz, fz, sz⟩ := gz.cells
  try simp only [size_drewN] at cz fz sz
  try simp only [World.size_alloc] at cz fz sz
  try simp only [World.size_drew] at cz fz sz
  try simp only [World.size_setCell] at cz fz sz
  have hz := h1.out.gr gz
  have hBz := hB.out.gr gz
  have e0 := hBz.cell (i := 0) (v := .int .i64 b.r) rfl
  have e1 := hBz.cell (i := 1) (v := .int .i64 b.n) rfl
  have k12 := hz.o.cell (i := 12) (v := .int .i64 M.bal.r) rfl
  have k13 := hz.o.cell (i := 13) (v := .int .i64 M.bal.n) rfl
  have k14 := hz.o.cell (i := 14) (v := .int .i64 M.st) rfl
  have k15 := hz.o.cell (i := 15) (v := .slice M.ha M.hs.length M.hc) rfl
  have k16 := hz.o.cell (i := 16) (v := .int .i64 M.nw.r) rfl
  have k17 := hz.o.cell (i := 17) (v := .int .i64 M.nw.n) rfl
  have k18 := hz.o.cell (i := 18) (v := .slice M.la M.led.length M.lc) rfl
  have k19 := hz.o.cell (i := 19) (v := .int .i64 M.begun) rfl
  have f12 := hz.o.free 12
  have f13 := hz.o.free 13
  have f14 := hz.o.free 14
  have f15 := hz.o.free 15
  have f16 := hz.o.free 16
  have f17 := hz.o.free 17
  have f18 := hz.o.free 18
  have f19 := hz.o.free 19
  have zz := hz.o.lt
  have gw : Gr w wz := g1.out.trans gz
  replace hz := Lib.hid hz
  replace hBz := Lib.hid hBz
  replace gw := Lib.hid gw
  clear cz fz x0 x1 c12 c13
  go_wp2_with fail
  go_ret
  have hfin := ((((((hz.out.bal b).stage 1).forget).newest ⟨0, 0⟩).newLed (a := none) (c := 0) (L := []) (LedM.nil _ _ _) (fun _ => rfl) (by simp)).begun (M.begun + 1))
  refine ⟨rfl, _, hfin, ?_, (((((((((gw.out.x (M.own mb)).set (p := ⟨mb, 12, none⟩) (.inl (List.mem_cons_self ..)) _).set (p := ⟨mb, 13, none⟩) (.inl (List.mem_cons_self ..)) _).set (p := ⟨mb, 14, none⟩) (.inl (List.mem_cons_self ..)) _).set (p := ⟨mb, 15, none⟩) (.inl (List.mem_cons_self ..)) _).set (p := ⟨mb, 16, none⟩) (.inl (List.mem_cons_self ..)) _).set (p := ⟨mb, 17, none⟩) (.inl (List.mem_cons_self ..)) _).set (p := ⟨mb, 18, none⟩) (.inl (List.mem_cons_self ..)) _).set (p := ⟨mb, 19, none⟩) (.inl (List.mem_cons_self ..)) _), fun y hy => .inl (RnM.own_sub hy)⟩
  show (⟨ansOf M.nd [], M.x.e, M.reads, b, 1, ⟨0, 0⟩, [], M.begun + 1⟩ : RndV) = {({M.v with an := List.replicate (ansOf M.nd M.hs).length false} : RndV) with bal := b, st := 1, nw := ⟨0, 0⟩, led := [], begun := M.begun + 1}
  rw [ansOf_nil, ansOf_len]
end Go.Proofs.YtblfljpmkgmjaaaDoor
