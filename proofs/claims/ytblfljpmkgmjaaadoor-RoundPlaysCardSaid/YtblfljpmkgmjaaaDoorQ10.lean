/- The reference's round: Ledger, New. -/
import Derived.Test.YtblfljpmkgmjaaaDoorQ9
import Derived.Test.YtblfljpmkgmjaaaDoorG22
namespace Go.Proofs.YtblfljpmkgmjaaaDoor
open Go.RowKit
variable {K0 : Nat → Prop}

set_option maxRecDepth 100000 in
set_option maxHeartbeats 3200000 in
theorem rledger_any (M : RnM) (w : World) (mb : Nat) (h : RnAt K0 w mb M) :
    Calls Tryd.prog 63 #[.pointer (some ⟨mb, 0, none⟩)] w fun e w' => e = .returned (.tuple #[if M.v.told then .slice M.la M.led.length M.lc else .slice none 0 0, .int .i64 M.v.place]) ∧ Gr w w' := by
  have c14 := h.o.cell (i := 14) (v := .int .i64 M.st) rfl
  by_cases h2 : M.st = 2
  · have ht : M.v.told = true := decide_eq_true (.inl h2)
    have t1 : (M.st != 2) = false := by simpa using h2
    unfold RndV.place
    rw [ht]
    cases hr : M.reads with
    | true =>
      rw [show M.v.reads = true from hr]
      have c11 := h.o.cell (i := 11) (v := .bool M.reads) rfl
      rw [hr] at c11
      have c18 := GrW.cell (h.o.cell (i := 18) (v := .slice M.la M.led.length M.lc) rfl)
      have hlm : M.v.led.length = M.led.length := List.length_map ..
      rw [hlm]
      replace hr := Lib.hid hr
      replace ht := Lib.hid ht
      clear h h2 hlm
      go_enter Tryd.func63, Tryd.ntmps63
      go_upto_region 4 with fail
      refine wp_region_grows (by kernel_rfl) (by kernel_rfl) ?_
      repeat (any_goals (first | go_big_quiet_step (first | fail) | quiet_step (first | fail)))
      refine wpQuiet_nil ?_
      intro wz hwq
      have gz := GrW.of hwq
      clear hwq
      obtain ⟨cz, fz, sz⟩ := gz.cells
      try simp only [size_drewN] at cz fz sz
      try simp only [World.size_alloc] at cz fz sz
      try simp only [World.size_drew] at cz fz sz
      try simp only [World.size_setCell] at cz fz sz
      go_wp2_with fail
      go_ret2
      exact ⟨rfl, gz⟩
    | false =>
      rw [show M.v.reads = false from hr]
      have c11 := h.o.cell (i := 11) (v := .bool M.reads) rfl
      rw [hr] at c11
      have c18 := GrW.cell (h.o.cell (i := 18) (v := .slice M.la M.led.length M.lc) rfl)
      have c1 := GrW.cell (h.o.cell (i := 1) (v := .int .i64 M.x.e.cl) rfl)
      have c2 := GrW.cell (h.o.cell (i := 2) (v := .int .i64 M.x.e.nu) rfl)
      have hcap := h.cap
      have hpl := fun x : GrW w => rplace_any M.la M.lc M.led M.x.e.cl M.x.e.nu x.to (h.l.any.gr x.gr) (by unfold maxLen; omega)
      have hpp : plE M.v.led M.v.x.cl M.v.x.nu + 1 = plIx M.led M.x.e.cl M.x.e.nu + 1 := by rw [plIx_map]
      rw [show (if false = true then (M.v.led.length : Int) else plE M.v.led M.v.x.cl M.v.x.nu + 1) = plIx M.led M.x.e.cl M.x.e.nu + 1 from hpp]
      obtain ⟨p, hp⟩ : ∃ p, p = plIx M.led M.x.e.cl M.x.e.nu + 1 := ⟨_, rfl⟩
      rw [← hp] at hpl ⊢
      replace hp := Lib.hid hp
      replace hpl := Lib.hid hpl
      replace hr := Lib.hid hr
      replace ht := Lib.hid ht
      clear h h2 hpp hcap
      go_enter Tryd.func63, Tryd.ntmps63
      go_upto_region 5 with fail
      refine wp_region_grows (by kernel_rfl) (by kernel_rfl) ?_
      repeat (any_goals (first | go_big_quiet_step (first | (exact Calls.grows (hpl.out _)) | fail) | quiet_step (first | (exact Calls.grows (hpl.out _)) | fail)))
      refine wpQuiet_nil ?_
      intro wz hwq
      have gz := GrW.of hwq
      clear hwq
      obtain ⟨cz, fz, sz⟩ := gz.cells
      try simp only [size_drewN] at cz fz sz
      try simp only [World.size_alloc] at cz fz sz
      try simp only [World.size_drew] at cz fz sz
      try simp only [World.size_setCell] at cz fz sz
      go_wp2_with fail
      go_ret2
      exact ⟨rfl, gz⟩
  · have t1 : (M.st != 2) = true := bne_iff_ne.2 h2
    by_cases h3 : M.st = 3
    · have ht : M.v.told = true := decide_eq_true (.inr h3)
      have t2 : (M.st != 3) = false := by simpa using h3
      unfold RndV.place
      rw [ht]
      cases hr : M.reads with
      | true =>
        rw [show M.v.reads = true from hr]
        have c11 := h.o.cell (i := 11) (v := .bool M.reads) rfl
        rw [hr] at c11
        have c18 := GrW.cell (h.o.cell (i := 18) (v := .slice M.la M.led.length M.lc) rfl)
        have hlm : M.v.led.length = M.led.length := List.length_map ..
        rw [hlm]
        replace hr := Lib.hid hr
        replace ht := Lib.hid ht
        clear h h2 h3 hlm
        go_enter Tryd.func63, Tryd.ntmps63
        go_upto_region 4 with fail
        refine wp_region_grows (by kernel_rfl) (by kernel_rfl) ?_
        repeat (any_goals (first | go_big_quiet_step (first | fail) | quiet_step (first | fail)))
        refine wpQuiet_nil ?_
        intro wz hwq
        have gz := GrW.of hwq
        clear hwq
        obtain ⟨cz, fz, sz⟩ := gz.cells
        try simp only [size_drewN] at cz fz sz
        try simp only [World.size_alloc] at cz fz sz
        try simp only [World.size_drew] at cz fz sz
        try simp only [World.size_setCell] at cz fz sz
        go_wp2_with fail
        go_ret2
        exact ⟨rfl, gz⟩
      | false =>
        rw [show M.v.reads = false from hr]
        have c11 := h.o.cell (i := 11) (v := .bool M.reads) rfl
        rw [hr] at c11
        have c18 := GrW.cell (h.o.cell (i := 18) (v := .slice M.la M.led.length M.lc) rfl)
        have c1 := GrW.cell (h.o.cell (i := 1) (v := .int .i64 M.x.e.cl) rfl)
        have c2 := GrW.cell (h.o.cell (i := 2) (v := .int .i64 M.x.e.nu) rfl)
        have hcap := h.cap
        have hpl := fun x : GrW w => rplace_any M.la M.lc M.led M.x.e.cl M.x.e.nu x.to (h.l.any.gr x.gr) (by unfold maxLen; omega)
        have hpp : plE M.v.led M.v.x.cl M.v.x.nu + 1 = plIx M.led M.x.e.cl M.x.e.nu + 1 := by rw [plIx_map]
        rw [show (if false = true then (M.v.led.length : Int) else plE M.v.led M.v.x.cl M.v.x.nu + 1) = plIx M.led M.x.e.cl M.x.e.nu + 1 from hpp]
        obtain ⟨p, hp⟩ : ∃ p, p = plIx M.led M.x.e.cl M.x.e.nu + 1 := ⟨_, rfl⟩
        rw [← hp] at hpl ⊢
        replace hp := Lib.hid hp
        replace hpl := Lib.hid hpl
        replace hr := Lib.hid hr
        replace ht := Lib.hid ht
        clear h h2 h3 hpp hcap
        go_enter Tryd.func63, Tryd.ntmps63
        go_upto_region 5 with fail
        refine wp_region_grows (by kernel_rfl) (by kernel_rfl) ?_
        repeat (any_goals (first | go_big_quiet_step (first | (exact Calls.grows (hpl.out _)) | fail) | quiet_step (first | (exact Calls.grows (hpl.out _)) | fail)))
        refine wpQuiet_nil ?_
        intro wz hwq
        have gz := GrW.of hwq
        clear hwq
        obtain ⟨cz, fz, sz⟩ := gz.cells
        try simp only [size_drewN] at cz fz sz
        try simp only [World.size_alloc] at cz fz sz
        try simp only [World.size_drew] at cz fz sz
        try simp only [World.size_setCell] at cz fz sz
        go_wp2_with fail
        go_ret2
        exact ⟨rfl, gz⟩
    · have ht : M.v.told = false := decide_eq_false (fun h => by rcases h with h | h; exact h2 h; exact h3 h)
      have t2 : (M.st != 3) = true := bne_iff_ne.2 h3
      unfold RndV.place
      rw [ht]
      clear h h2 h3 ht
      go_enter Tryd.func63, Tryd.ntmps63
      go_wp2_with fail
      go_ret2
      exact ⟨rfl, Gr.refl _⟩
/-- The reference's round is new. -/
abbrev RnM.new (n : Nat) (x : EntM) (reads : Bool) : RnM := ⟨n, x, reads, ⟨0, 0⟩, 0, [], none, 0, ⟨0, 0⟩, none, 0, [], 0⟩
theorem RnM.v_new (n : Nat) (x : EntM) (reads : Bool) : (RnM.new n x reads).v = RndV.new n x.e reads := by
  show (⟨ansOf n [], x.e, reads, ⟨0, 0⟩, 0, ⟨0, 0⟩, [], 0⟩ : RndV) = _
  rw [ansOf_nil]
  rfl
theorem rnew_at {K0 : Nat → Prop} (n m : Nat) (x : EntM) (reads : Bool) (W : World) (hm : W.heap.size = m) (hx : x.ok K0 W) (h1 : 1 ≤ n) (h7 : n ≤ 7) : RnAt K0 (W.alloc (.cells (RnM.new n x reads).row 110)) m (RnM.new n x reads) := by
  subst hm
  refine ⟨Blk.new W _ _, ⟨h1, h7⟩, (hx.mono (fun b hb h => ⟨fun hm => by simp [RnM.own] at hm; omega, h⟩)).gr ((Gr.refl W).alloc _), LedM.nil _ _ _, fun _ => rfl, by simp, World.ownsRow_nil _ _ _ _, (fun i hi => by cases hi), ?_⟩
  show (ansOf n []).count true = 0
  rw [ansOf_nil, List.count_replicate]
  rfl
set_option maxRecDepth 100000 in
set_option maxHeartbeats 3200000 in
theorem rnew_num (n : Int) (x : EntM) (reads : Bool) (w : World) (hn : n < 1 ∨ 7 < n) :
    Calls Tryd.prog 27 #[.int .i64 n, .agg #[.int .i64 x.e.cl, .int .i64 x.e.nu, .int .i64 x.e.kd, .int .i64 x.e.id, .int .i64 x.e.srv.k, .int .i64 x.e.srv.q, .int .i64 x.e.srv.t, .int .i64 x.e.po, .slice x.a x.e.tasks.length x.c, .int .i64 x.e.at_], .bool reads] w fun e w' => e = .returned (.tuple #[.pointer none, .int .i64 1]) ∧ Gr w w' := by
  by_cases h1 : n < 1
  · clear hn
    go_enter Tryd.func27, Tryd.ntmps27
    go_wp2_with fail
    go_ret2
    exact ⟨rfl, (Gr.refl _).alloc _⟩
  · have h7 : 7 < n := by rcases hn with h | h; exact absurd h h1; exact h
    clear hn
    go_enter Tryd.func27, Tryd.ntmps27
    go_wp2_with fail
    go_ret2
    exact ⟨rfl, (Gr.refl _).alloc _⟩
set_option maxRecDepth 100000 in
set_option maxHeartbeats 3200000 in
theorem rnew_form (n : Int) (x : EntM) (w : World) (hx : x.ok Any w) (h1 : ¬ n < 1) (h7 : ¬ 7 < n) (hf : entF x.e = false) :
    Calls Tryd.prog 27 #[.int .i64 n, .agg #[.int .i64 x.e.cl, .int .i64 x.e.nu, .int .i64 x.e.kd, .int .i64 x.e.id, .int .i64 x.e.srv.k, .int .i64 x.e.srv.q, .int .i64 x.e.srv.t, .int .i64 x.e.po, .slice x.a x.e.tasks.length x.c, .int .i64 x.e.at_], .bool false] w fun e w' => e = .returned (.tuple #[.pointer none, .int .i64 16]) ∧ Gr w w' := by
  have g1 := (Gr.refl w).alloc x.obj
  have hif := inForm_any x.e x.a x.c (w.alloc x.obj) (hx.gr g1)
  rw [hf] at hif
  replace hif := Lib.hid hif
  replace hf := Lib.hid hf
  clear hx
  go_enter Tryd.func27, Tryd.ntmps27
  go_wp2_with fail
  refine hif.out.mono ?_
  rintro e w1 ⟨rfl, g2⟩
  go_wp2_with fail
  go_ret2
  exact ⟨rfl, g1.trans g2⟩
/-- What the reference's New gives. -/
def NewRn (K0 : Nat → Prop) (n : Nat) (x : EntM) (reads : Bool) (w : World) (e : Ending) (w' : World) : Prop := ∃ mb, e = .returned (.tuple #[.pointer (some ⟨mb, 0, none⟩), .int .i64 0]) ∧ RnAt K0 w' mb (RnM.new n x reads) ∧ w.heap.size ≤ mb ∧ Gr w w'
set_option maxRecDepth 100000 in
set_option maxHeartbeats 3200000 in
theorem rnew_any (n : Nat) (x : EntM) (reads : Bool) (w : World) (hx : x.ok K0 w) (h1 : 1 ≤ n) (h7 : n ≤ 7) (hf : reads = false → entF x.e = true) :
    Calls Tryd.prog 27 #[.int .i64 n, .agg #[.int .i64 x.e.cl, .int .i64 x.e.nu, .int .i64 x.e.kd, .int .i64 x.e.id, .int .i64 x.e.srv.k, .int .i64 x.e.srv.q, .int .i64 x.e.srv.t, .int .i64 x.e.po, .slice x.a x.e.tasks.length x.c, .int .i64 x.e.at_], .bool reads] w (NewRn K0 n x reads w) := by
  have g1 := (Gr.refl w).alloc x.obj
  have hX : Blk (w.alloc x.obj) w.heap.size #[.int .i64 x.e.cl, .int .i64 x.e.nu, .int .i64 x.e.kd, .int .i64 x.e.id, .int .i64 x.e.srv.k, .int .i64 x.e.srv.q, .int .i64 x.e.srv.t, .int .i64 x.e.po, .slice x.a x.e.tasks.length x.c, .int .i64 x.e.at_] 36 := Blk.new w _ _
  have t1 : ¬ (n : Int) < 1 := by omega
  have t2 : ¬ (7 : Int) < n := by omega
  have hx1 := hx.gr g1
  replace hX := Lib.hid hX
  cases reads with
  | true =>
    replace hx := Lib.hid hx
    replace hx1 := Lib.hid hx1
    go_enter Tryd.func27, Tryd.ntmps27
    go_wp2_with fail
    go_ret2
    exact ⟨w.heap.size + 1, rfl, rnew_at n (w.heap.size + 1) x true _ (by simp) hx1.out h1 h7, by omega, g1.alloc _⟩
  | false =>
    have hif := inForm_any x.e x.a x.c (w.alloc x.obj) (hx1.mono (fun _ _ _ => trivial))
    rw [hf rfl] at hif
    replace hif := Lib.hid hif
    replace hx := Lib.hid hx
    replace hx1 := Lib.hid hx1
    clear hf
    go_enter Tryd.func27, Tryd.ntmps27
    go_wp2_with fail
    refine hif.out.mono ?_
    rintro e w1 ⟨rfl, g2⟩
    have hX1 := hX.out.gr g2
    have gw := g1.trans g2
    have xc0 := hX1.cell (i := 0) (v := .int .i64 x.e.cl) rfl
    have xc1 := hX1.cell (i := 1) (v := .int .i64 x.e.nu) rfl
    have xc2 := hX1.cell (i := 2) (v := .int .i64 x.e.kd) rfl
    have xc3 := hX1.cell (i := 3) (v := .int .i64 x.e.id) rfl
    have xc4 := hX1.cell (i := 4) (v := .int .i64 x.e.srv.k) rfl
    have xc5 := hX1.cell (i := 5) (v := .int .i64 x.e.srv.q) rfl
    have xc6 := hX1.cell (i := 6) (v := .int .i64 x.e.srv.t) rfl
    have xc7 := hX1.cell (i := 7) (v := .int .i64 x.e.po) rfl
    have xc8 := hX1.cell (i := 8) (v := .slice x.a x.e.tasks.length x.c) rfl
    have xc9 := hX1.cell (i := 9) (v := .int .i64 x.e.at_) rfl
    have hz := hX1.lt
    obtain ⟨m, hm⟩ : ∃ m, w1.heap.size = m := ⟨_, rfl⟩
    replace hX1 := Lib.hid hX1
    go_wp2_with fail
    go_ret2
    exact ⟨m, rfl, rnew_at n m x false _ hm (hx1.out.gr g2) h1 h7, by have := gw.size; omega, gw.alloc _⟩
end Go.Proofs.YtblfljpmkgmjaaaDoor
