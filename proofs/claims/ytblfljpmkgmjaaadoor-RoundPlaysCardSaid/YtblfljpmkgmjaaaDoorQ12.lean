/- The program's round: New refused, New of an entry in form; Begin refused; Begun. -/
import Derived.Test.YtblfljpmkgmjaaaDoorQ11
import Derived.Test.YtblfljpmkgmjaaaDoorG15
namespace Go.Proofs.YtblfljpmkgmjaaaDoor
open Go.RowKit
variable {K0 : Nat → Prop}

set_option maxRecDepth 100000 in
set_option maxHeartbeats 1600000 in
theorem new_num {G : List Nat} {E : Nat → Addr} (n : Int) (x : EntM) (reads : Bool) (w : World) (hE : EAt G E w) (i2 : 2 ∈ G) (hn : n < 1 ∨ 7 < n) :
    Calls Tryd.prog 12 #[.int .i64 n, .agg #[.int .i64 x.e.cl, .int .i64 x.e.nu, .int .i64 x.e.kd, .int .i64 x.e.id, .int .i64 x.e.srv.k, .int .i64 x.e.srv.q, .int .i64 x.e.srv.t, .int .i64 x.e.po, .slice x.a x.e.tasks.length x.c, .int .i64 x.e.at_], .bool reads] w fun e w' => e = .returned (.tuple #[.pointer none, (Value.iface 194 (.pointer (some (E 2))))]) ∧ Gr w w' := by
  have g1 := (Gr.refl w).alloc x.obj
  have he := GrW.cell ((hE.gr g1).c0 i2)
  by_cases h1 : n < 1
  · clear hn
    go_enter Tryd.func12, Tryd.ntmps12
    go_upto_region 2 with fail
    refine wp_region_grows (by kernel_rfl) (by kernel_rfl) ?_
    repeat (any_goals (first | go_big_quiet_step (first | fail) | quiet_step (first | fail)))
    refine wpQuiet_nil ?_
    intro wz hwq
    have gz := GrW.of hwq
    clear hwq
    obtain ⟨cz, fz, sz⟩ := gz.cells
    try simp only [size_drewN] at cz fz sz
    try simp only [World.size_alloc] at cz fz sz
    try simp only [World.size_drew] at cz fz sz
    try simp only [World.size_setCell] at cz fz sz
    go_wp2_with fail
    go_ret2
    exact ⟨rfl, g1.trans gz⟩
  · have h7 : 7 < n := by rcases hn with h | h; exact absurd h h1; exact h
    clear hn
    go_enter Tryd.func12, Tryd.ntmps12
    go_upto_region 2 with fail
    refine wp_region_grows (by kernel_rfl) (by kernel_rfl) ?_
    repeat (any_goals (first | go_big_quiet_step (first | fail) | quiet_step (first | fail)))
    refine wpQuiet_nil ?_
    intro wz hwq
    have gz := GrW.of hwq
    clear hwq
    obtain ⟨cz, fz, sz⟩ := gz.cells
    try simp only [size_drewN] at cz fz sz
    try simp only [World.size_alloc] at cz fz sz
    try simp only [World.size_drew] at cz fz sz
    try simp only [World.size_setCell] at cz fz sz
    go_wp2_with fail
    go_ret2
    exact ⟨rfl, g1.trans gz⟩
set_option maxRecDepth 100000 in
set_option maxHeartbeats 1600000 in
theorem new_form {G : List Nat} {E : Nat → Addr} (n : Int) (x : EntM) (w : World) (hE : EAt G E w) (i0 : 0 ∈ G) (hx : x.ok Any w) (h1 : ¬ n < 1) (h7 : ¬ 7 < n) (hf : entF x.e = false) :
    Calls Tryd.prog 12 #[.int .i64 n, .agg #[.int .i64 x.e.cl, .int .i64 x.e.nu, .int .i64 x.e.kd, .int .i64 x.e.id, .int .i64 x.e.srv.k, .int .i64 x.e.srv.q, .int .i64 x.e.srv.t, .int .i64 x.e.po, .slice x.a x.e.tasks.length x.c, .int .i64 x.e.at_], .bool false] w fun e w' => e = .returned (.tuple #[.pointer none, (Value.iface 194 (.pointer (some (E 0))))]) ∧ Gr w w' := by
  have g1 := (Gr.refl w).alloc x.obj
  have hck := check_any x (w.alloc x.obj) (hx.gr g1) (hE.gr g1) i0
  rw [hf] at hck
  have hck2 : Calls Tryd.prog 48 #[.agg #[.int .i64 x.e.cl, .int .i64 x.e.nu, .int .i64 x.e.kd, .int .i64 x.e.id, .int .i64 x.e.srv.k, .int .i64 x.e.srv.q, .int .i64 x.e.srv.t, .int .i64 x.e.po, .slice x.a x.e.tasks.length x.c, .int .i64 x.e.at_]] (w.alloc x.obj) fun e w' => e = .returned (Value.iface 194 (.pointer (some (E 0)))) ∧ Gr (w.alloc x.obj) w' := hck
  replace hck2 := Lib.hid hck2
  clear hck
  go_enter Tryd.func12, Tryd.ntmps12
  go_wp2_with fail
  refine hck2.out.mono ?_
  rintro e w1 ⟨rfl, g2⟩
  have he := GrW.cell ((hE.gr (g1.trans g2)).c0 i0)
  go_upto_region 4 with fail
  refine wp_region_grows (by kernel_rfl) (by kernel_rfl) ?_
  repeat (any_goals (first | go_big_quiet_step (first | fail) | quiet_step (first | fail)))
  refine wpQuiet_nil ?_
  intro wz hwq
  have gz := GrW.of hwq
  clear hwq
  obtain ⟨cz, fz, sz⟩ := gz.cells
  try simp only [size_drewN] at cz fz sz
  try simp only [World.size_alloc] at cz fz sz
  try simp only [World.size_drew] at cz fz sz
  try simp only [World.size_setCell] at cz fz sz
  go_wp2_with fail
  go_ret2
  exact ⟨rfl, (g1.trans g2).trans gz⟩
/-- New of an entry in form, or of a round that reads. -/
theorem new_ok {G : List Nat} {E : Nat → Addr} (n : Nat) (x : EntM) (reads : Bool) (w : World) (hE : EAt G E w) (i0 : 0 ∈ G) (hx : x.ok Any w) (h1 : 1 ≤ n) (h7 : n ≤ 7) (hf : reads = false → entF x.e = true) :
    Calls Tryd.prog 12 #[.int .i64 n, .agg #[.int .i64 x.e.cl, .int .i64 x.e.nu, .int .i64 x.e.kd, .int .i64 x.e.id, .int .i64 x.e.srv.k, .int .i64 x.e.srv.q, .int .i64 x.e.srv.t, .int .i64 x.e.po, .slice x.a x.e.tasks.length x.c, .int .i64 x.e.at_], .bool reads] w (NewRnd n x.e reads w) :=
  new_any n x reads w hx h1 h7 (fun hr => by
    have g1 := (Gr.refl w).alloc x.obj
    have hck := check_any x (w.alloc x.obj) (hx.gr g1) (hE.gr g1) i0
    rw [hf hr] at hck
    exact hck)
set_option maxRecDepth 100000 in
set_option maxHeartbeats 1600000 in
theorem begin_no {G : List Nat} {E : Nat → Addr} (R : Rnd) (b : Bal) (w : World) (rb ab : Nat) (hE : EAt G E w) (i3 : 3 ∈ G) (h : RndAt K0 w rb ab R) (hs : R.st < 3) (hno : balB b = false ∨ aboveB b R.bal = false) :
    Calls Tryd.prog 14 #[.pointer (some ⟨rb, 0, none⟩), .agg #[.int .i64 b.r, .int .i64 b.n]] w fun e w' => e = .returned (Value.iface 194 (.pointer (some (E 3)))) ∧ Gr w w' := by
  obtain ⟨W, hW⟩ : ∃ W, W = w.alloc (.cells #[.int .i64 b.r, .int .i64 b.n] 39) := ⟨_, rfl⟩
  have g1 : Gr w W := by rw [hW]; exact (Gr.refl w).alloc _
  have hB : Blk W w.heap.size #[.int .i64 b.r, .int .i64 b.n] 39 := by rw [hW]; exact Blk.new w _ _
  have h1 := h.gr g1
  have c14 : W.cell? ⟨rb, 14, none⟩ = some (.int .i64 R.st) := h1.o.cell rfl
  have x0 := GrW.cell (hB.cell (i := 0) (v := .int .i64 b.r) rfl)
  have x1 := GrW.cell (hB.cell (i := 1) (v := .int .i64 b.n) rfl)
  have c12 := GrW.cell (h1.o.cell (i := 12) (v := .int .i64 R.bal.r) rfl)
  have c13 := GrW.cell (h1.o.cell (i := 13) (v := .int .i64 R.bal.n) rfl)
  have hlg := fun x : GrW W => legal19_any b x.to
  have hab := fun x : GrW W => above_any b R.bal x.to
  have hst : ¬ (3 : Int) ≤ R.st := by omega
  have heW := hE.gr g1
  replace g1 := Lib.hid g1
  replace hB := Lib.hid hB
  replace h1 := Lib.hid h1
  clear h
  cases q1 : balB b with
  | false =>
    rw [q1] at hlg
    replace hlg := Lib.hid hlg
    replace hab := Lib.hid hab
    replace hno := Lib.hid hno
    replace hW := Lib.hid hW
    go_enter Tryd.func14, Tryd.ntmps14
    go_upto_region 1 with fail
    rw [← hW.out]
    go_upto_region 3 with fail
    refine wp_region_grows (by kernel_rfl) (by kernel_rfl) ?_
    repeat (any_goals (first | go_big_quiet_step (first | (exact Calls.grows (hlg.out _)) | fail) | quiet_step (first | (exact Calls.grows (hlg.out _)) | fail)))
    refine wpQuiet_nil ?_
    intro wz hwq
    have gz := GrW.of hwq
    clear hwq
    obtain ⟨cz, fz, sz⟩ := gz.cells
    try simp only [size_drewN] at cz fz sz
    try simp only [World.size_alloc] at cz fz sz
    try simp only [World.size_drew] at cz fz sz
    try simp only [World.size_setCell] at cz fz sz
    have he := (heW.gr gz).c0 i3
    go_wp2_with fail
    go_ret
    exact ⟨rfl, g1.out.trans gz⟩
  | true =>
    have q2 : aboveB b R.bal = false := by rcases hno with h | h; rw [q1] at h; cases h; exact h
    rw [q1] at hlg
    rw [q2] at hab
    replace hlg := Lib.hid hlg
    replace hab := Lib.hid hab
    replace hno := Lib.hid hno
    replace hW := Lib.hid hW
    go_enter Tryd.func14, Tryd.ntmps14
    go_upto_region 1 with fail
    rw [← hW.out]
    go_upto_region 3 with fail
    refine wp_region_grows (by kernel_rfl) (by kernel_rfl) ?_
    repeat (any_goals (first | go_big_quiet_step (first | (exact Calls.grows (hlg.out _)) | (exact Calls.grows (hab.out _)) | fail) | quiet_step (first | (exact Calls.grows (hlg.out _)) | (exact Calls.grows (hab.out _)) | fail)))
    refine wpQuiet_nil ?_
    intro wz hwq
    have gz := GrW.of hwq
    clear hwq
    obtain ⟨cz, fz, sz⟩ := gz.cells
    try simp only [size_drewN] at cz fz sz
    try simp only [World.size_alloc] at cz fz sz
    try simp only [World.size_drew] at cz fz sz
    try simp only [World.size_setCell] at cz fz sz
    have he := (heW.gr gz).c0 i3
    go_wp2_with fail
    go_ret
    exact ⟨rfl, g1.out.trans gz⟩
set_option maxRecDepth 100000 in
set_option maxHeartbeats 1600000 in
theorem begun_any (R : Rnd) (w : World) (rb ab : Nat) (h : RndAt K0 w rb ab R) :
    Calls Tryd.prog 65 #[.pointer (some ⟨rb, 0, none⟩)] w fun e w' => e = .returned (.int .i64 R.begun) ∧ w = w' := by
  have c18 : w.cell? ⟨rb, 18, none⟩ = some (.int .i64 R.begun) := h.o.cell rfl
  clear h
  go_enter Tryd.func65, Tryd.ntmps65
  go_wp2_with fail
  go_ret
  exact ⟨rfl, rfl⟩
end Go.Proofs.YtblfljpmkgmjaaaDoor
